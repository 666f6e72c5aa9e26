/-
  StrengthSum and StrengthTotal: the program's, from the contract of the sums of symbols.
-/
import Derived.Test.YthinhhfegflmmaaLineI
import Derived.Test.YthinhhfegflmmaaStrengthT
namespace Go.Proofs.Ythinhhfegflmmaa.StrengthI
open Go.RowKit Go.Proofs.Ythinhhfegflmmaa.RatP Go.Proofs.Ythinhhfegflmmaa.Rat Go.Proofs.Ythinhhfegflmmaa.ChoP Go.Proofs.Ythinhhfegflmmaa.StrP Go.Proofs.Ythinhhfegflmmaa.Spin Go.Proofs.Ythinhhfegflmmaa.Row Go.Proofs.Ythinhhfegflmmaa.Coupled Go.Proofs.Ythinhhfegflmmaa.Later Go.Proofs.Ythinhhfegflmmaa.Two Go.Proofs.Ythinhhfegflmmaa.DrawTerm Go.Proofs.Ythinhhfegflmmaa.SixS Go.Proofs.Ythinhhfegflmmaa.SixI Go.Proofs.Ythinhhfegflmmaa.LineI Go.Proofs.Ythinhhfegflmmaa.StrengthS
set_option linter.unusedVariables false
set_option linter.unusedSimpArgs false

set_option maxRecDepth 100000 in
set_option maxHeartbeats 8000000 in
theorem sumOverSum (ts tl : Int) (B0 : Nat) (g : Int → Ro) (w : World) (ht : termOk ts tl = true) (hor : ∀ i, (g i).ok = false → g i = bad)
    (hF : ∀ i W, Below w.heap.size w W → Calls Try.prog 29 #[.agg #[.int .i64 ts, .int .i64 tl, .int .i64 i], .pointer (some ⟨B0, 0, none⟩)] W (Gives (roV (g i)) W)) :
    Calls Try.prog 28 #[.agg #[.int .i64 ts, .int .i64 tl], .func (.func 29) #[] #[.pointer (some ⟨B0, 0, none⟩)]] w (Gives (roV (sumFrom ⟨0, 1, true⟩ ((levelJs ts tl).map g))) w) := by
  have HLV := Lib.hid (fun W => iLevelsOf ts tl W)
  have hjs := js_some ht
  obtain ⟨RES, hRES⟩ : ∃ r, r = sumFrom ⟨0, 1, true⟩ ((levelJs ts tl).map g) := ⟨_, rfl⟩
  have HRES := Lib.hid hRES
  rw [← hRES]
  have HF := Lib.hid hF
  have HOR := Lib.hid hor
  have HWH := Lib.hid (fun W => iwhole 0 W)
  clear ht hRES hF hor
  generalize levelJs ts tl = js at *
  obtain ⟨n, hn⟩ : ∃ n, n = js.length := ⟨_, rfl⟩
  have HN := Lib.hid hn
  obtain ⟨hj1, hj2⟩ := hjs
  rw [← hn] at hj1 hj2
  clear hn
  go_enter Try.func28, Try.ntmps28
  go_wp2_with fail
  (with_reducible refine (HWH.out _).mono ?_)
  rintro e w1 ⟨rfl, b1⟩
  have B1 : Below w.heap.size w w1 := Below.trans (by repeat (first | (with_reducible refine Below.drew ?_) | (with_reducible refine below_drewN ?_ _) | (with_reducible refine Below.alloc ?_ ?_ _) | (with_reducible refine Below.setCell ?_ ?_ _) | (with_reducible assumption) | (with_reducible exact Below.refl _ _) | omega | (simp <;> omega))) (b1.mono (by first | omega | (simp <;> omega)))
  have R0 : Two ((w.alloc (.cells #[.int .i64 ts, .int .i64 tl] 24)).alloc (.cells #[.int .i64 0, .int .i64 0] 30)) (w.heap.size + 1) 0 0 := by have h := Two.new (w.alloc (.cells #[.int .i64 ts, .int .i64 tl] 24)) 0 0 30; simpa using h
  have T0 : Two ((w.alloc (.cells #[.int .i64 ts, .int .i64 tl] 24)).alloc (.cells #[.int .i64 0, .int .i64 0] 30)) (w.heap.size) ts tl := (Two.new w ts tl 24).alloc _
  have TR1 := Lib.hid (R0.below b1 R0.2.2.2.2)
  have TT1 := Lib.hid (T0.below b1 T0.2.2.2.2)
  have hz1 := b1.size
  simp at hz1
  clear b1 R0 T0
  have TS1 := Lib.hid (Two.new w1 0 1 30)
  have A1 := B1.alloc B1.size (.cells #[.int .i64 0, .int .i64 1] 30)
  obtain ⟨q0, q1, q2, q3, q4⟩ := TT1.out
  go_wp2_with fail
  (with_reducible refine (HLV.out _).mono ?_)
  rintro e w2 ⟨v2, rfl, O2, b2⟩
  have B2 : Below w.heap.size w w2 := A1.trans (b2.mono A1.size)
  have TS2 := Lib.hid (TS1.out.below b2 TS1.out.2.2.2.2)
  have TR2 := Lib.hid ((TR1.out.alloc (.cells #[.int .i64 0, .int .i64 1] 30)).below b2 (TR1.out.alloc (.cells #[.int .i64 0, .int .i64 1] 30)).2.2.2.2)
  rw [← HN.out] at O2
  obtain ⟨b, c, rfl, hb0, hbl, hnc, hcm, hcell⟩ := own_level (js := js) (by rw [← HN.out]; exact O2) (by rw [← HN.out]; exact hj1)
  rw [← HN.out] at hnc
  simp at hb0
  have HC := Lib.hid hcell
  have SB2 := Lib.hid (show Same b w2 w2 from ⟨hbl, fun _ => rfl⟩)
  clear O2 b2 hcell TS1 TR1 TT1 A1 B1 q0 q1 q2 q3 q4
  rw [← HN.out]
  go_wp2
  go_loopw [7, 16] (fun u i wr => ∃ (m : Nat) (an ad : Int), m ≤ n ∧ u = .bool true ∧ i = .int .i64 m ∧ Two wr (w1.heap.size) an ad ∧ Two wr (w.heap.size + 1) 0 0 ∧ Same b w2 wr ∧ Below w.heap.size w wr ∧ Hid (RES = sumFrom ⟨an, ad, true⟩ ((js.drop m).map g))) (fun _ i _ => n - (intOf i).toNat)
  case atStart => exact ⟨0, 0, 1, by omega, rfl, rfl, TS2.out, TR2.out, SB2.out, B2, Lib.hid HRES.out⟩
  case round =>
    obtain ⟨m, an, ad, hm, rfl, rfl, hS1, hR1, hSB, hB, hG⟩ := hrel
    have hsz := hB.size
    have TS := Lib.hid hS1
    have TR := Lib.hid hR1
    have SB := Lib.hid hSB
    clear hSB TS2 TR2 SB2
    by_cases hlt : m < n
    · have hkl : m < js.length := by have := HN.out; omega
      obtain ⟨c0, c1, c2⟩ := HC.out m hkl
      have hY := sleft_next (g := g) hkl an ad
      generalize js[m] = jm at *
      have HY := Lib.hid (hG.out.trans hY)
      have HO := Lib.hid (HOR.out jm)
      have e0 := (SB.out.2 _).trans c0
      have e1 := (SB.out.2 _).trans c1
      have e2 := (SB.out.2 _).trans c2
      have hF := HF.out jm _ (hB.alloc hsz (.cells #[.int .i64 ts, .int .i64 tl, .int .i64 jm] 26))
      unfold roV at hF
      have HADD := Lib.hid (fun x y W => iRatAdd an ad x y W)
      unfold roV at HADD
      generalize hr : g jm = r at *
      obtain ⟨rn, rd, rok⟩ := r
      have HPART := Lib.hid hF
      clear hY hG c0 c1 c2 hr hF
      have hbw : b < wr.heap.size := SB.out.1
      go_wp2_with fail
      (refine HPART.out.mono ?_)
      rintro e w3 ⟨rfl, b3⟩
      have B3 : Below w.heap.size w w3 := (hB.alloc hsz (.cells #[.int .i64 ts, .int .i64 tl, .int .i64 jm] 26)).trans (b3.mono (hB.alloc hsz (.cells #[.int .i64 ts, .int .i64 tl, .int .i64 jm] 26)).size)
      have TS3 := Lib.hid ((TS.out.alloc (.cells #[.int .i64 ts, .int .i64 tl, .int .i64 jm] 26)).below b3 (TS.out.alloc (.cells #[.int .i64 ts, .int .i64 tl, .int .i64 jm] 26)).2.2.2.2)
      have TR3 := Lib.hid ((TR.out.alloc (.cells #[.int .i64 ts, .int .i64 tl, .int .i64 jm] 26)).below b3 (TR.out.alloc (.cells #[.int .i64 ts, .int .i64 tl, .int .i64 jm] 26)).2.2.2.2)
      have SB3 := Lib.hid ((SB.out.alloc (.cells #[.int .i64 ts, .int .i64 tl, .int .i64 jm] 26)).below b3 (SB.out.alloc (.cells #[.int .i64 ts, .int .i64 tl, .int .i64 jm] 26)).1)
      clear b3 TS TR SB hB hsz hbw e0 e1 e2 hS1 hR1 HPART
      obtain ⟨s0, s1, s2, s3, s4⟩ := TS3.out
      have HA := Lib.hid (fun W => HADD.out rn rd W)
      have HY2 := Lib.hid (show RES = if (addR an ad rn rd).ok = true then sumFrom (addR an ad rn rd) ((js.drop (m + 1)).map g) else bad from HY.out)
      have hbadq : rok = false → addR an ad rn rd = bad := by
        intro h; subst h
        have hb := HO.out rfl
        have h1 : rn = 0 := congrArg Ro.n hb
        have h2 : rd = 0 := congrArg Ro.d hb
        rw [h1, h2]; exact add_bad an ad
      have HBQ := Lib.hid hbadq
      clear HY HADD HO hbadq
      generalize addR an ad rn rd = q at *
      obtain ⟨qn, qd, qok⟩ := q
      go_wp2_with fail
      (with_reducible refine (HA.out _).mono ?_)
      rintro e w4 ⟨rfl, b4⟩
      have B4 : Below w.heap.size w w4 := (B3.alloc B3.size (.cells #[.int .i64 rn, .int .i64 rd] 30)).trans (b4.mono (B3.alloc B3.size (.cells #[.int .i64 rn, .int .i64 rd] 30)).size)
      have TS4 := Lib.hid ((TS3.out.alloc (.cells #[.int .i64 rn, .int .i64 rd] 30)).below b4 (TS3.out.alloc (.cells #[.int .i64 rn, .int .i64 rd] 30)).2.2.2.2)
      have TR4 := Lib.hid ((TR3.out.alloc (.cells #[.int .i64 rn, .int .i64 rd] 30)).below b4 (TR3.out.alloc (.cells #[.int .i64 rn, .int .i64 rd] 30)).2.2.2.2)
      have SB4 := Lib.hid ((SB3.out.alloc (.cells #[.int .i64 rn, .int .i64 rd] 30)).below b4 (SB3.out.alloc (.cells #[.int .i64 rn, .int .i64 rd] 30)).1)
      clear b4 TS3 TR3 SB3 B3 s0 s1 s2 s3 s4 HA
      obtain ⟨s0, s1, s2, s3, s4⟩ := TS4.out
      obtain ⟨r0, r1, r2, r3, r4⟩ := TR4.out
      cases qok
      · have HFF := Lib.hid (HY2.out.trans (if_neg (by simp)))
        clear HY2 HBQ
        cases rok
        all_goals
          go_wp2
          refine bodyPost_ret (v := .tuple #[.agg #[.int .i64 0, .int .i64 0], .bool false]) (by simp [results, Try.results28, go_sem, *, lt2, lt3, lt4, lt5, lt6]) rfl ⟨by rw [HFF.out]; rfl, (by repeat (first | (with_reducible refine Below.drew ?_) | (with_reducible refine below_drewN ?_ _) | (with_reducible refine Below.alloc ?_ ?_ _) | (with_reducible refine Below.setCell ?_ ?_ _) | (with_reducible assumption) | (with_reducible exact Below.refl _ _) | omega | (simp <;> omega)))⟩
      · have HFF := Lib.hid (HY2.out.trans (if_pos rfl))
        have hrok : rok = true := by
          cases rok
          · have := HBQ.out rfl; cases this
          · rfl
        subst hrok
        clear HY2 HBQ
        have neR : w1.heap.size ≠ w.heap.size + 1 := by omega
        have neB : w1.heap.size ≠ b := by omega
        go_wp2
        go_roundw
        case rel => exact ⟨m + 1, qn, qd, by omega, rfl, by go_num, Two.put TS4.out qn qd, (TR4.out.set neR _).set neR _, (SB4.out.set neB _).set neB _, (by repeat (first | (with_reducible refine Below.drew ?_) | (with_reducible refine below_drewN ?_ _) | (with_reducible refine Below.alloc ?_ ?_ _) | (with_reducible refine Below.setCell ?_ ?_ _) | (with_reducible assumption) | (with_reducible exact Below.refl _ _) | omega | (simp <;> omega))), HFF⟩
        case measure => simp [intOf]; omega
    · have HFF := Lib.hid (hG.out.trans (sleft_end (g := g) (by have := HN.out; omega) an ad))
      obtain ⟨s0, s1, s2, s3, s4⟩ := hS1
      obtain ⟨r0, r1, r2, r3, r4⟩ := hR1
      clear hG
      go_wp2
      refine bodyPost_ret (v := .tuple #[.agg #[.int .i64 an, .int .i64 ad], .bool true]) (by simp [results, Try.results28, go_sem, *, lt2, lt3, lt4, lt5, lt6]) rfl ⟨by rw [HFF.out]; rfl, (by repeat (first | (with_reducible refine Below.drew ?_) | (with_reducible refine below_drewN ?_ _) | (with_reducible refine Below.alloc ?_ ?_ _) | (with_reducible refine Below.setCell ?_ ?_ _) | (with_reducible assumption) | (with_reducible exact Below.refl _ _) | omega | (simp <;> omega)))⟩

set_option maxRecDepth 100000 in
set_option maxHeartbeats 1000000 in
theorem cloSum (s l j ts tl i : Int) (B0 : Nat) (W : World) (HS6 : ∀ a b c d e, Dom a b c d e → SumGives a b c d e) (hb : Thr W B0 s l j) :
    Calls Try.prog 29 #[.agg #[.int .i64 ts, .int .i64 tl, .int .i64 i], .pointer (some ⟨B0, 0, none⟩)] W (Gives (roV (lineS s l j ts tl i)) W) := by
  have HL := Lib.hid (fun W => iLineStrength s l j ts tl i W HS6)
  unfold roV at HL ⊢
  generalize lineS s l j ts tl i = r at *
  obtain ⟨rn, rd, rok⟩ := r
  obtain ⟨x0, x1, x2, x3⟩ := hb
  have hb1 : B0 < W.heap.size + 1 := by omega
  have hb2 : B0 < W.heap.size + 1 + 1 := by omega
  clear HS6
  go_enter Try.func29, Try.ntmps29
  go_wp2_with fail
  (with_reducible refine (HL.out _).mono ?_)
  rintro e w1 ⟨rfl, b1⟩
  have B1 : Below W.heap.size W w1 := Below.trans (((Below.refl W.heap.size W).alloc (Nat.le_refl _) _).alloc (by simp) _) (b1.mono (by simp <;> omega))
  have R1 := Two.below (W := (W.alloc (.cells #[.int .i64 ts, .int .i64 tl, .int .i64 i] 26)).alloc (.cells #[.int .i64 0, .int .i64 0] 30)) (b := W.heap.size + 1) (x := 0) (y := 0) (by have h := Two.new (W.alloc (.cells #[.int .i64 ts, .int .i64 tl, .int .i64 i] 26)) 0 0 30; simpa using h) b1 (by simp)
  obtain ⟨r0, r1, r2, r3, r4⟩ := R1
  clear b1
  go_wp2
  refine bodyPost_ret (v := .tuple #[.agg #[.int .i64 rn, .int .i64 rd], .bool rok]) (by simp [results, Try.results29, go_sem, *, lt2, lt3, lt4, lt5, lt6]) rfl ⟨rfl, (B1.setCell (p := ⟨W.heap.size + 1, 0, none⟩) (by simp) _).setCell (p := ⟨W.heap.size + 1, 1, none⟩) (by simp) _⟩

set_option maxRecDepth 100000 in
set_option maxHeartbeats 2000000 in
theorem iStrengthSum (s l j s' l' : Int) (w : World) (HS6 : ∀ a b c d e, Dom a b c d e → SumGives a b c d e) : Calls Try.prog 9 #[.agg #[.int .i64 s, .int .i64 l, .int .i64 j], .agg #[.int .i64 s', .int .i64 l']] w (Gives (roV (strSum s l j s' l')) w) := by
  have HT := Lib.hid (fun W (r : Bool) (h : termOk s' l' = r) => (h ▸ iTermValid s' l' W : Calls Try.prog 27 #[.agg #[.int .i64 s', .int .i64 l']] W (Gives (.bool r) W)))
  cases ht : termOk s' l'
  · have HV := Lib.hid (fun W => HT.out W _ ht)
    have HR := Lib.hid (show strSum s l j s' l' = bad by unfold strSum; rw [if_neg]; simp [ht])
    clear ht HS6
    go_enter Try.func9, Try.ntmps9
    go_wp2_with fail
    (with_reducible refine (HV.out _).mono ?_)
    rintro e w1 ⟨rfl, b1⟩
    have hz1 := b1.size
    obtain ⟨hc1, hf1⟩ := bcell b1
    have B1 : Below w.heap.size w w1 := Below.trans (by repeat (first | (with_reducible refine Below.drew ?_) | (with_reducible refine below_drewN ?_ _) | (with_reducible refine Below.alloc ?_ ?_ _) | (with_reducible refine Below.setCell ?_ ?_ _) | (with_reducible assumption) | (with_reducible exact Below.refl _ _) | omega | (simp <;> omega))) (b1.mono (by first | omega | (simp <;> omega)))
    (try simp at hz1)
    have hy1 : w.heap.size < w1.heap.size := by omega
    clear b1
    have kc1_0_2 : w1.cell? ⟨w.heap.size + 1 + 1, 0, none⟩ = some (.int .i64 0) := (hc1 (w.heap.size + 1 + 1) 0 (by first | omega | (simp <;> omega))).trans (by first | (simp; done) | (simp [*]; done) | (simp [*, World.cell?_alloc_at, World.cell?_alloc_past, World.cell?_alloc_lt, lt2, lt3, lt4]; done))
    have kc1_1_2 : w1.cell? ⟨w.heap.size + 1 + 1, 1, none⟩ = some (.int .i64 0) := (hc1 (w.heap.size + 1 + 1) 1 (by first | omega | (simp <;> omega))).trans (by first | (simp; done) | (simp [*]; done) | (simp [*, World.cell?_alloc_at, World.cell?_alloc_past, World.cell?_alloc_lt, lt2, lt3, lt4]; done))
    have kf1_0_2 : w1.frozen? ⟨w.heap.size + 1 + 1, 0, none⟩ = false := (hf1 (w.heap.size + 1 + 1) 0 (by first | omega | (simp <;> omega))).trans (by first | (simp; done) | (simp [*]; done) | (simp [*, World.frozen?_alloc_at, World.frozen?_alloc_past, lt2, lt3, lt4]; done))
    have kf1_1_2 : w1.frozen? ⟨w.heap.size + 1 + 1, 1, none⟩ = false := (hf1 (w.heap.size + 1 + 1) 1 (by first | omega | (simp <;> omega))).trans (by first | (simp; done) | (simp [*]; done) | (simp [*, World.frozen?_alloc_at, World.frozen?_alloc_past, lt2, lt3, lt4]; done))
    go_wp2
    refine bodyPost_ret (v := .tuple #[.agg #[.int .i64 0, .int .i64 0], .bool false]) (by simp [results, Try.results9, go_sem, *, lt2, lt3, lt4, lt5, lt6]) rfl ⟨by rw [HR.out]; rfl, (by repeat (first | (with_reducible refine Below.drew ?_) | (with_reducible refine below_drewN ?_ _) | (with_reducible refine Below.alloc ?_ ?_ _) | (with_reducible refine Below.setCell ?_ ?_ _) | (with_reducible assumption) | (with_reducible exact Below.refl _ _) | omega | (simp <;> omega)))⟩
  · have HV := Lib.hid (fun W => HT.out W _ ht)
    have hR := (show strSum s l j s' l' = sumFrom ⟨0, 1, true⟩ ((levelJs s' l').map fun i => lineS s l j s' l' i) by unfold strSum; rw [if_pos ht])
    have HSO := Lib.hid (fun (W : World) (hx : Thr W w.heap.size s l j) => sumOverSum s' l' w.heap.size (fun i => lineS s l j s' l' i) W ht (fun i => line_or s l j s' l' i) (fun i W' hb => cloSum s l j s' l' i w.heap.size W' HS6 (hx.below hb hx.2.2.2)))
    rw [← hR] at HSO
    clear ht HS6 hR
    unfold roV at HSO ⊢
    generalize strSum s l j s' l' = r at *
    obtain ⟨rn, rd, rok⟩ := r
    go_enter Try.func9, Try.ntmps9
    go_wp2_with fail
    (with_reducible refine (HV.out _).mono ?_)
    rintro e w1 ⟨rfl, b1⟩
    have hz1 := b1.size
    obtain ⟨hc1, hf1⟩ := bcell b1
    have B1 : Below w.heap.size w w1 := Below.trans (by repeat (first | (with_reducible refine Below.drew ?_) | (with_reducible refine below_drewN ?_ _) | (with_reducible refine Below.alloc ?_ ?_ _) | (with_reducible refine Below.setCell ?_ ?_ _) | (with_reducible assumption) | (with_reducible exact Below.refl _ _) | omega | (simp <;> omega))) (b1.mono (by first | omega | (simp <;> omega)))
    (try simp at hz1)
    have hy1 : w.heap.size < w1.heap.size := by omega
    clear b1
    have kc1_0_0 : w1.cell? ⟨w.heap.size, 0, none⟩ = some (.int .i64 s) := (hc1 (w.heap.size) 0 (by first | omega | (simp <;> omega))).trans (by first | (simp; done) | (simp [*]; done) | (simp [*, World.cell?_alloc_at, World.cell?_alloc_past, World.cell?_alloc_lt, lt2, lt3, lt4]; done))
    have kc1_1_0 : w1.cell? ⟨w.heap.size, 1, none⟩ = some (.int .i64 l) := (hc1 (w.heap.size) 1 (by first | omega | (simp <;> omega))).trans (by first | (simp; done) | (simp [*]; done) | (simp [*, World.cell?_alloc_at, World.cell?_alloc_past, World.cell?_alloc_lt, lt2, lt3, lt4]; done))
    have kc1_2_0 : w1.cell? ⟨w.heap.size, 2, none⟩ = some (.int .i64 j) := (hc1 (w.heap.size) 2 (by first | omega | (simp <;> omega))).trans (by first | (simp; done) | (simp [*]; done) | (simp [*, World.cell?_alloc_at, World.cell?_alloc_past, World.cell?_alloc_lt, lt2, lt3, lt4]; done))
    have kc1_0_1 : w1.cell? ⟨w.heap.size + 1, 0, none⟩ = some (.int .i64 s') := (hc1 (w.heap.size + 1) 0 (by first | omega | (simp <;> omega))).trans (by first | (simp; done) | (simp [*]; done) | (simp [*, World.cell?_alloc_at, World.cell?_alloc_past, World.cell?_alloc_lt, lt2, lt3, lt4]; done))
    have kc1_1_1 : w1.cell? ⟨w.heap.size + 1, 1, none⟩ = some (.int .i64 l') := (hc1 (w.heap.size + 1) 1 (by first | omega | (simp <;> omega))).trans (by first | (simp; done) | (simp [*]; done) | (simp [*, World.cell?_alloc_at, World.cell?_alloc_past, World.cell?_alloc_lt, lt2, lt3, lt4]; done))
    have kc1_0_2 : w1.cell? ⟨w.heap.size + 1 + 1, 0, none⟩ = some (.int .i64 0) := (hc1 (w.heap.size + 1 + 1) 0 (by first | omega | (simp <;> omega))).trans (by first | (simp; done) | (simp [*]; done) | (simp [*, World.cell?_alloc_at, World.cell?_alloc_past, World.cell?_alloc_lt, lt2, lt3, lt4]; done))
    have kc1_1_2 : w1.cell? ⟨w.heap.size + 1 + 1, 1, none⟩ = some (.int .i64 0) := (hc1 (w.heap.size + 1 + 1) 1 (by first | omega | (simp <;> omega))).trans (by first | (simp; done) | (simp [*]; done) | (simp [*, World.cell?_alloc_at, World.cell?_alloc_past, World.cell?_alloc_lt, lt2, lt3, lt4]; done))
    have kf1_0_2 : w1.frozen? ⟨w.heap.size + 1 + 1, 0, none⟩ = false := (hf1 (w.heap.size + 1 + 1) 0 (by first | omega | (simp <;> omega))).trans (by first | (simp; done) | (simp [*]; done) | (simp [*, World.frozen?_alloc_at, World.frozen?_alloc_past, lt2, lt3, lt4]; done))
    have kf1_1_2 : w1.frozen? ⟨w.heap.size + 1 + 1, 1, none⟩ = false := (hf1 (w.heap.size + 1 + 1) 1 (by first | omega | (simp <;> omega))).trans (by first | (simp; done) | (simp [*]; done) | (simp [*, World.frozen?_alloc_at, World.frozen?_alloc_past, lt2, lt3, lt4]; done))
    have TR1 := Lib.hid (show Two w1 (w.heap.size + 1 + 1) 0 0 from ⟨kc1_0_2, kc1_1_2, kf1_0_2, kf1_1_2, by omega⟩)
    have HX := Lib.hid (HSO.out w1 ⟨kc1_0_0, kc1_1_0, kc1_2_0, hy1⟩)
    clear hc1 hf1 kf1_0_2 kf1_1_2 kc1_0_2 kc1_1_2
    go_wp2_with fail
    (refine HX.out.mono ?_)
    rintro e w2 ⟨rfl, b2⟩
    have B2 : Below w.heap.size w w2 := B1.trans (b2.mono B1.size)
    obtain ⟨r0, r1, r2, r3, r4⟩ := TR1.out.below b2 TR1.out.2.2.2.2
    clear b2
    go_wp2
    refine bodyPost_ret (v := .tuple #[.agg #[.int .i64 rn, .int .i64 rd], .bool rok]) (by simp [results, Try.results9, go_sem, *, lt2, lt3, lt4, lt5, lt6]) rfl ⟨rfl, (by repeat (first | (with_reducible refine Below.drew ?_) | (with_reducible refine below_drewN ?_ _) | (with_reducible refine Below.alloc ?_ ?_ _) | (with_reducible refine Below.setCell ?_ ?_ _) | (with_reducible assumption) | (with_reducible exact Below.refl _ _) | omega | (simp <;> omega)))⟩

set_option maxRecDepth 100000 in
set_option maxHeartbeats 8000000 in
theorem sumOverTotal (ts tl : Int) (B0 : Nat) (g : Int → Ro) (w : World) (ht : termOk ts tl = true) (hor : ∀ i, (g i).ok = false → g i = bad)
    (hF : ∀ i W, Below w.heap.size w W → Calls Try.prog 36 #[.agg #[.int .i64 ts, .int .i64 tl, .int .i64 i], .pointer (some ⟨B0, 0, none⟩)] W (Gives (roV (g i)) W)) :
    Calls Try.prog 28 #[.agg #[.int .i64 ts, .int .i64 tl], .func (.func 36) #[] #[.pointer (some ⟨B0, 0, none⟩)]] w (Gives (roV (sumFrom ⟨0, 1, true⟩ ((levelJs ts tl).map g))) w) := by
  have HLV := Lib.hid (fun W => iLevelsOf ts tl W)
  have hjs := js_some ht
  obtain ⟨RES, hRES⟩ : ∃ r, r = sumFrom ⟨0, 1, true⟩ ((levelJs ts tl).map g) := ⟨_, rfl⟩
  have HRES := Lib.hid hRES
  rw [← hRES]
  have HF := Lib.hid hF
  have HOR := Lib.hid hor
  have HWH := Lib.hid (fun W => iwhole 0 W)
  clear ht hRES hF hor
  generalize levelJs ts tl = js at *
  obtain ⟨n, hn⟩ : ∃ n, n = js.length := ⟨_, rfl⟩
  have HN := Lib.hid hn
  obtain ⟨hj1, hj2⟩ := hjs
  rw [← hn] at hj1 hj2
  clear hn
  go_enter Try.func28, Try.ntmps28
  go_wp2_with fail
  (with_reducible refine (HWH.out _).mono ?_)
  rintro e w1 ⟨rfl, b1⟩
  have B1 : Below w.heap.size w w1 := Below.trans (by repeat (first | (with_reducible refine Below.drew ?_) | (with_reducible refine below_drewN ?_ _) | (with_reducible refine Below.alloc ?_ ?_ _) | (with_reducible refine Below.setCell ?_ ?_ _) | (with_reducible assumption) | (with_reducible exact Below.refl _ _) | omega | (simp <;> omega))) (b1.mono (by first | omega | (simp <;> omega)))
  have R0 : Two ((w.alloc (.cells #[.int .i64 ts, .int .i64 tl] 24)).alloc (.cells #[.int .i64 0, .int .i64 0] 30)) (w.heap.size + 1) 0 0 := by have h := Two.new (w.alloc (.cells #[.int .i64 ts, .int .i64 tl] 24)) 0 0 30; simpa using h
  have T0 : Two ((w.alloc (.cells #[.int .i64 ts, .int .i64 tl] 24)).alloc (.cells #[.int .i64 0, .int .i64 0] 30)) (w.heap.size) ts tl := (Two.new w ts tl 24).alloc _
  have TR1 := Lib.hid (R0.below b1 R0.2.2.2.2)
  have TT1 := Lib.hid (T0.below b1 T0.2.2.2.2)
  have hz1 := b1.size
  simp at hz1
  clear b1 R0 T0
  have TS1 := Lib.hid (Two.new w1 0 1 30)
  have A1 := B1.alloc B1.size (.cells #[.int .i64 0, .int .i64 1] 30)
  obtain ⟨q0, q1, q2, q3, q4⟩ := TT1.out
  go_wp2_with fail
  (with_reducible refine (HLV.out _).mono ?_)
  rintro e w2 ⟨v2, rfl, O2, b2⟩
  have B2 : Below w.heap.size w w2 := A1.trans (b2.mono A1.size)
  have TS2 := Lib.hid (TS1.out.below b2 TS1.out.2.2.2.2)
  have TR2 := Lib.hid ((TR1.out.alloc (.cells #[.int .i64 0, .int .i64 1] 30)).below b2 (TR1.out.alloc (.cells #[.int .i64 0, .int .i64 1] 30)).2.2.2.2)
  rw [← HN.out] at O2
  obtain ⟨b, c, rfl, hb0, hbl, hnc, hcm, hcell⟩ := own_level (js := js) (by rw [← HN.out]; exact O2) (by rw [← HN.out]; exact hj1)
  rw [← HN.out] at hnc
  simp at hb0
  have HC := Lib.hid hcell
  have SB2 := Lib.hid (show Same b w2 w2 from ⟨hbl, fun _ => rfl⟩)
  clear O2 b2 hcell TS1 TR1 TT1 A1 B1 q0 q1 q2 q3 q4
  rw [← HN.out]
  go_wp2
  go_loopw [7, 16] (fun u i wr => ∃ (m : Nat) (an ad : Int), m ≤ n ∧ u = .bool true ∧ i = .int .i64 m ∧ Two wr (w1.heap.size) an ad ∧ Two wr (w.heap.size + 1) 0 0 ∧ Same b w2 wr ∧ Below w.heap.size w wr ∧ Hid (RES = sumFrom ⟨an, ad, true⟩ ((js.drop m).map g))) (fun _ i _ => n - (intOf i).toNat)
  case atStart => exact ⟨0, 0, 1, by omega, rfl, rfl, TS2.out, TR2.out, SB2.out, B2, Lib.hid HRES.out⟩
  case round =>
    obtain ⟨m, an, ad, hm, rfl, rfl, hS1, hR1, hSB, hB, hG⟩ := hrel
    have hsz := hB.size
    have TS := Lib.hid hS1
    have TR := Lib.hid hR1
    have SB := Lib.hid hSB
    clear hSB TS2 TR2 SB2
    by_cases hlt : m < n
    · have hkl : m < js.length := by have := HN.out; omega
      obtain ⟨c0, c1, c2⟩ := HC.out m hkl
      have hY := sleft_next (g := g) hkl an ad
      generalize js[m] = jm at *
      have HY := Lib.hid (hG.out.trans hY)
      have HO := Lib.hid (HOR.out jm)
      have e0 := (SB.out.2 _).trans c0
      have e1 := (SB.out.2 _).trans c1
      have e2 := (SB.out.2 _).trans c2
      have hF := HF.out jm _ (hB.alloc hsz (.cells #[.int .i64 ts, .int .i64 tl, .int .i64 jm] 26))
      unfold roV at hF
      have HADD := Lib.hid (fun x y W => iRatAdd an ad x y W)
      unfold roV at HADD
      generalize hr : g jm = r at *
      obtain ⟨rn, rd, rok⟩ := r
      have HPART := Lib.hid hF
      clear hY hG c0 c1 c2 hr hF
      have hbw : b < wr.heap.size := SB.out.1
      go_wp2_with fail
      (refine HPART.out.mono ?_)
      rintro e w3 ⟨rfl, b3⟩
      have B3 : Below w.heap.size w w3 := (hB.alloc hsz (.cells #[.int .i64 ts, .int .i64 tl, .int .i64 jm] 26)).trans (b3.mono (hB.alloc hsz (.cells #[.int .i64 ts, .int .i64 tl, .int .i64 jm] 26)).size)
      have TS3 := Lib.hid ((TS.out.alloc (.cells #[.int .i64 ts, .int .i64 tl, .int .i64 jm] 26)).below b3 (TS.out.alloc (.cells #[.int .i64 ts, .int .i64 tl, .int .i64 jm] 26)).2.2.2.2)
      have TR3 := Lib.hid ((TR.out.alloc (.cells #[.int .i64 ts, .int .i64 tl, .int .i64 jm] 26)).below b3 (TR.out.alloc (.cells #[.int .i64 ts, .int .i64 tl, .int .i64 jm] 26)).2.2.2.2)
      have SB3 := Lib.hid ((SB.out.alloc (.cells #[.int .i64 ts, .int .i64 tl, .int .i64 jm] 26)).below b3 (SB.out.alloc (.cells #[.int .i64 ts, .int .i64 tl, .int .i64 jm] 26)).1)
      clear b3 TS TR SB hB hsz hbw e0 e1 e2 hS1 hR1 HPART
      obtain ⟨s0, s1, s2, s3, s4⟩ := TS3.out
      have HA := Lib.hid (fun W => HADD.out rn rd W)
      have HY2 := Lib.hid (show RES = if (addR an ad rn rd).ok = true then sumFrom (addR an ad rn rd) ((js.drop (m + 1)).map g) else bad from HY.out)
      have hbadq : rok = false → addR an ad rn rd = bad := by
        intro h; subst h
        have hb := HO.out rfl
        have h1 : rn = 0 := congrArg Ro.n hb
        have h2 : rd = 0 := congrArg Ro.d hb
        rw [h1, h2]; exact add_bad an ad
      have HBQ := Lib.hid hbadq
      clear HY HADD HO hbadq
      generalize addR an ad rn rd = q at *
      obtain ⟨qn, qd, qok⟩ := q
      go_wp2_with fail
      (with_reducible refine (HA.out _).mono ?_)
      rintro e w4 ⟨rfl, b4⟩
      have B4 : Below w.heap.size w w4 := (B3.alloc B3.size (.cells #[.int .i64 rn, .int .i64 rd] 30)).trans (b4.mono (B3.alloc B3.size (.cells #[.int .i64 rn, .int .i64 rd] 30)).size)
      have TS4 := Lib.hid ((TS3.out.alloc (.cells #[.int .i64 rn, .int .i64 rd] 30)).below b4 (TS3.out.alloc (.cells #[.int .i64 rn, .int .i64 rd] 30)).2.2.2.2)
      have TR4 := Lib.hid ((TR3.out.alloc (.cells #[.int .i64 rn, .int .i64 rd] 30)).below b4 (TR3.out.alloc (.cells #[.int .i64 rn, .int .i64 rd] 30)).2.2.2.2)
      have SB4 := Lib.hid ((SB3.out.alloc (.cells #[.int .i64 rn, .int .i64 rd] 30)).below b4 (SB3.out.alloc (.cells #[.int .i64 rn, .int .i64 rd] 30)).1)
      clear b4 TS3 TR3 SB3 B3 s0 s1 s2 s3 s4 HA
      obtain ⟨s0, s1, s2, s3, s4⟩ := TS4.out
      obtain ⟨r0, r1, r2, r3, r4⟩ := TR4.out
      cases qok
      · have HFF := Lib.hid (HY2.out.trans (if_neg (by simp)))
        clear HY2 HBQ
        cases rok
        all_goals
          go_wp2
          refine bodyPost_ret (v := .tuple #[.agg #[.int .i64 0, .int .i64 0], .bool false]) (by simp [results, Try.results28, go_sem, *, lt2, lt3, lt4, lt5, lt6]) rfl ⟨by rw [HFF.out]; rfl, (by repeat (first | (with_reducible refine Below.drew ?_) | (with_reducible refine below_drewN ?_ _) | (with_reducible refine Below.alloc ?_ ?_ _) | (with_reducible refine Below.setCell ?_ ?_ _) | (with_reducible assumption) | (with_reducible exact Below.refl _ _) | omega | (simp <;> omega)))⟩
      · have HFF := Lib.hid (HY2.out.trans (if_pos rfl))
        have hrok : rok = true := by
          cases rok
          · have := HBQ.out rfl; cases this
          · rfl
        subst hrok
        clear HY2 HBQ
        have neR : w1.heap.size ≠ w.heap.size + 1 := by omega
        have neB : w1.heap.size ≠ b := by omega
        go_wp2
        go_roundw
        case rel => exact ⟨m + 1, qn, qd, by omega, rfl, by go_num, Two.put TS4.out qn qd, (TR4.out.set neR _).set neR _, (SB4.out.set neB _).set neB _, (by repeat (first | (with_reducible refine Below.drew ?_) | (with_reducible refine below_drewN ?_ _) | (with_reducible refine Below.alloc ?_ ?_ _) | (with_reducible refine Below.setCell ?_ ?_ _) | (with_reducible assumption) | (with_reducible exact Below.refl _ _) | omega | (simp <;> omega))), HFF⟩
        case measure => simp [intOf]; omega
    · have HFF := Lib.hid (hG.out.trans (sleft_end (g := g) (by have := HN.out; omega) an ad))
      obtain ⟨s0, s1, s2, s3, s4⟩ := hS1
      obtain ⟨r0, r1, r2, r3, r4⟩ := hR1
      clear hG
      go_wp2
      refine bodyPost_ret (v := .tuple #[.agg #[.int .i64 an, .int .i64 ad], .bool true]) (by simp [results, Try.results28, go_sem, *, lt2, lt3, lt4, lt5, lt6]) rfl ⟨by rw [HFF.out]; rfl, (by repeat (first | (with_reducible refine Below.drew ?_) | (with_reducible refine below_drewN ?_ _) | (with_reducible refine Below.alloc ?_ ?_ _) | (with_reducible refine Below.setCell ?_ ?_ _) | (with_reducible assumption) | (with_reducible exact Below.refl _ _) | omega | (simp <;> omega)))⟩

set_option maxRecDepth 100000 in
set_option maxHeartbeats 1000000 in
theorem cloTotal (s' l' ts tl i : Int) (B0 : Nat) (W : World) (HS6 : ∀ a b c d e, Dom a b c d e → SumGives a b c d e) (hb : Two W B0 s' l') :
    Calls Try.prog 36 #[.agg #[.int .i64 ts, .int .i64 tl, .int .i64 i], .pointer (some ⟨B0, 0, none⟩)] W (Gives (roV (strSum ts tl i s' l')) W) := by
  have HL := Lib.hid (fun W => iStrengthSum ts tl i s' l' W HS6)
  unfold roV at HL ⊢
  generalize strSum ts tl i s' l' = r at *
  obtain ⟨rn, rd, rok⟩ := r
  obtain ⟨x0, x1, x2, x3, x4⟩ := hb
  have hb1 : B0 < W.heap.size + 1 := by omega
  have hb2 : B0 < W.heap.size + 1 + 1 := by omega
  clear HS6
  go_enter Try.func36, Try.ntmps36
  go_wp2_with fail
  (with_reducible refine (HL.out _).mono ?_)
  rintro e w1 ⟨rfl, b1⟩
  have B1 : Below W.heap.size W w1 := Below.trans (((Below.refl W.heap.size W).alloc (Nat.le_refl _) _).alloc (by simp) _) (b1.mono (by simp <;> omega))
  have R1 := Two.below (W := (W.alloc (.cells #[.int .i64 ts, .int .i64 tl, .int .i64 i] 26)).alloc (.cells #[.int .i64 0, .int .i64 0] 30)) (b := W.heap.size + 1) (x := 0) (y := 0) (by have h := Two.new (W.alloc (.cells #[.int .i64 ts, .int .i64 tl, .int .i64 i] 26)) 0 0 30; simpa using h) b1 (by simp)
  obtain ⟨r0, r1, r2, r3, r4⟩ := R1
  clear b1
  go_wp2
  refine bodyPost_ret (v := .tuple #[.agg #[.int .i64 rn, .int .i64 rd], .bool rok]) (by simp [results, Try.results36, go_sem, *, lt2, lt3, lt4, lt5, lt6]) rfl ⟨rfl, (B1.setCell (p := ⟨W.heap.size + 1, 0, none⟩) (by simp) _).setCell (p := ⟨W.heap.size + 1, 1, none⟩) (by simp) _⟩

set_option maxRecDepth 100000 in
set_option maxHeartbeats 2000000 in
theorem iStrengthTotal (s l s' l' : Int) (w : World) (HS6 : ∀ a b c d e, Dom a b c d e → SumGives a b c d e) : Calls Try.prog 16 #[.agg #[.int .i64 s, .int .i64 l], .agg #[.int .i64 s', .int .i64 l']] w (Gives (roV (strTotal s l s' l')) w) := by
  have HT := Lib.hid (fun W (r : Bool) (h : termOk s l = r) => (h ▸ iTermValid s l W : Calls Try.prog 27 #[.agg #[.int .i64 s, .int .i64 l]] W (Gives (.bool r) W)))
  have HT' := Lib.hid (fun W (r : Bool) (h : termOk s' l' = r) => (h ▸ iTermValid s' l' W : Calls Try.prog 27 #[.agg #[.int .i64 s', .int .i64 l']] W (Gives (.bool r) W)))
  cases ht : termOk s l
  · have HV := Lib.hid (fun W => HT.out W _ ht)
    have HR := Lib.hid (show strTotal s l s' l' = bad by unfold strTotal; rw [if_neg]; simp [ht])
    clear ht HS6
    go_enter Try.func16, Try.ntmps16
    go_wp2_with fail
    (with_reducible refine (HV.out _).mono ?_)
    rintro e w1 ⟨rfl, b1⟩
    have hz1 := b1.size
    obtain ⟨hc1, hf1⟩ := bcell b1
    have B1 : Below w.heap.size w w1 := Below.trans (by repeat (first | (with_reducible refine Below.drew ?_) | (with_reducible refine below_drewN ?_ _) | (with_reducible refine Below.alloc ?_ ?_ _) | (with_reducible refine Below.setCell ?_ ?_ _) | (with_reducible assumption) | (with_reducible exact Below.refl _ _) | omega | (simp <;> omega))) (b1.mono (by first | omega | (simp <;> omega)))
    (try simp at hz1)
    have hy1 : w.heap.size < w1.heap.size := by omega
    clear b1
    have kc1_0_2 : w1.cell? ⟨w.heap.size + 1 + 1, 0, none⟩ = some (.int .i64 0) := (hc1 (w.heap.size + 1 + 1) 0 (by first | omega | (simp <;> omega))).trans (by first | (simp; done) | (simp [*]; done) | (simp [*, World.cell?_alloc_at, World.cell?_alloc_past, World.cell?_alloc_lt, lt2, lt3, lt4]; done))
    have kc1_1_2 : w1.cell? ⟨w.heap.size + 1 + 1, 1, none⟩ = some (.int .i64 0) := (hc1 (w.heap.size + 1 + 1) 1 (by first | omega | (simp <;> omega))).trans (by first | (simp; done) | (simp [*]; done) | (simp [*, World.cell?_alloc_at, World.cell?_alloc_past, World.cell?_alloc_lt, lt2, lt3, lt4]; done))
    have kf1_0_2 : w1.frozen? ⟨w.heap.size + 1 + 1, 0, none⟩ = false := (hf1 (w.heap.size + 1 + 1) 0 (by first | omega | (simp <;> omega))).trans (by first | (simp; done) | (simp [*]; done) | (simp [*, World.frozen?_alloc_at, World.frozen?_alloc_past, lt2, lt3, lt4]; done))
    have kf1_1_2 : w1.frozen? ⟨w.heap.size + 1 + 1, 1, none⟩ = false := (hf1 (w.heap.size + 1 + 1) 1 (by first | omega | (simp <;> omega))).trans (by first | (simp; done) | (simp [*]; done) | (simp [*, World.frozen?_alloc_at, World.frozen?_alloc_past, lt2, lt3, lt4]; done))
    go_wp2
    refine bodyPost_ret (v := .tuple #[.agg #[.int .i64 0, .int .i64 0], .bool false]) (by simp [results, Try.results16, go_sem, *, lt2, lt3, lt4, lt5, lt6]) rfl ⟨by rw [HR.out]; rfl, (by repeat (first | (with_reducible refine Below.drew ?_) | (with_reducible refine below_drewN ?_ _) | (with_reducible refine Below.alloc ?_ ?_ _) | (with_reducible refine Below.setCell ?_ ?_ _) | (with_reducible assumption) | (with_reducible exact Below.refl _ _) | omega | (simp <;> omega)))⟩
  · have HV := Lib.hid (fun W => HT.out W _ ht)
    cases ht' : termOk s' l'
    · have HW := Lib.hid (fun W => HT'.out W _ ht')
      have HR := Lib.hid (show strTotal s l s' l' = bad by unfold strTotal; rw [if_neg]; simp [ht'])
      clear ht ht' HS6
      go_enter Try.func16, Try.ntmps16
      go_wp2_with fail
      (with_reducible refine (HV.out _).mono ?_)
      rintro e w1 ⟨rfl, b1⟩
      have hz1 := b1.size
      obtain ⟨hc1, hf1⟩ := bcell b1
      have B1 : Below w.heap.size w w1 := Below.trans (by repeat (first | (with_reducible refine Below.drew ?_) | (with_reducible refine below_drewN ?_ _) | (with_reducible refine Below.alloc ?_ ?_ _) | (with_reducible refine Below.setCell ?_ ?_ _) | (with_reducible assumption) | (with_reducible exact Below.refl _ _) | omega | (simp <;> omega))) (b1.mono (by first | omega | (simp <;> omega)))
      (try simp at hz1)
      have hy1 : w.heap.size < w1.heap.size := by omega
      clear b1
      have kc1_0_1 : w1.cell? ⟨w.heap.size + 1, 0, none⟩ = some (.int .i64 s') := (hc1 (w.heap.size + 1) 0 (by first | omega | (simp <;> omega))).trans (by first | (simp; done) | (simp [*]; done) | (simp [*, World.cell?_alloc_at, World.cell?_alloc_past, World.cell?_alloc_lt, lt2, lt3, lt4]; done))
      have kc1_1_1 : w1.cell? ⟨w.heap.size + 1, 1, none⟩ = some (.int .i64 l') := (hc1 (w.heap.size + 1) 1 (by first | omega | (simp <;> omega))).trans (by first | (simp; done) | (simp [*]; done) | (simp [*, World.cell?_alloc_at, World.cell?_alloc_past, World.cell?_alloc_lt, lt2, lt3, lt4]; done))
      have kc1_0_2 : w1.cell? ⟨w.heap.size + 1 + 1, 0, none⟩ = some (.int .i64 0) := (hc1 (w.heap.size + 1 + 1) 0 (by first | omega | (simp <;> omega))).trans (by first | (simp; done) | (simp [*]; done) | (simp [*, World.cell?_alloc_at, World.cell?_alloc_past, World.cell?_alloc_lt, lt2, lt3, lt4]; done))
      have kc1_1_2 : w1.cell? ⟨w.heap.size + 1 + 1, 1, none⟩ = some (.int .i64 0) := (hc1 (w.heap.size + 1 + 1) 1 (by first | omega | (simp <;> omega))).trans (by first | (simp; done) | (simp [*]; done) | (simp [*, World.cell?_alloc_at, World.cell?_alloc_past, World.cell?_alloc_lt, lt2, lt3, lt4]; done))
      have kf1_0_2 : w1.frozen? ⟨w.heap.size + 1 + 1, 0, none⟩ = false := (hf1 (w.heap.size + 1 + 1) 0 (by first | omega | (simp <;> omega))).trans (by first | (simp; done) | (simp [*]; done) | (simp [*, World.frozen?_alloc_at, World.frozen?_alloc_past, lt2, lt3, lt4]; done))
      have kf1_1_2 : w1.frozen? ⟨w.heap.size + 1 + 1, 1, none⟩ = false := (hf1 (w.heap.size + 1 + 1) 1 (by first | omega | (simp <;> omega))).trans (by first | (simp; done) | (simp [*]; done) | (simp [*, World.frozen?_alloc_at, World.frozen?_alloc_past, lt2, lt3, lt4]; done))
      have hya1 : w.heap.size + 1 < w1.heap.size := by omega
      have hyb1 : w.heap.size + 1 + 1 < w1.heap.size := by omega
      go_wp2_with fail
      (with_reducible refine (HW.out _).mono ?_)
      rintro e w2 ⟨rfl, b2⟩
      have hz2 := b2.size
      obtain ⟨hc2, hf2⟩ := bcell b2
      have B2 : Below w.heap.size w w2 := Below.trans (by repeat (first | (with_reducible refine Below.drew ?_) | (with_reducible refine below_drewN ?_ _) | (with_reducible refine Below.alloc ?_ ?_ _) | (with_reducible refine Below.setCell ?_ ?_ _) | (with_reducible assumption) | (with_reducible exact Below.refl _ _) | omega | (simp <;> omega))) (b2.mono (by first | omega | (simp <;> omega)))
      (try simp at hz2)
      have hy2 : w.heap.size < w2.heap.size := by omega
      clear b2
      have kc2_0_2 : w2.cell? ⟨w.heap.size + 1 + 1, 0, none⟩ = some (.int .i64 0) := (hc2 (w.heap.size + 1 + 1) 0 (by first | omega | (simp <;> omega))).trans (by first | (simp; done) | (simp [*]; done) | (simp [*, World.cell?_alloc_at, World.cell?_alloc_past, World.cell?_alloc_lt, lt2, lt3, lt4]; done))
      have kc2_1_2 : w2.cell? ⟨w.heap.size + 1 + 1, 1, none⟩ = some (.int .i64 0) := (hc2 (w.heap.size + 1 + 1) 1 (by first | omega | (simp <;> omega))).trans (by first | (simp; done) | (simp [*]; done) | (simp [*, World.cell?_alloc_at, World.cell?_alloc_past, World.cell?_alloc_lt, lt2, lt3, lt4]; done))
      have kf2_0_2 : w2.frozen? ⟨w.heap.size + 1 + 1, 0, none⟩ = false := (hf2 (w.heap.size + 1 + 1) 0 (by first | omega | (simp <;> omega))).trans (by first | (simp; done) | (simp [*]; done) | (simp [*, World.frozen?_alloc_at, World.frozen?_alloc_past, lt2, lt3, lt4]; done))
      have kf2_1_2 : w2.frozen? ⟨w.heap.size + 1 + 1, 1, none⟩ = false := (hf2 (w.heap.size + 1 + 1) 1 (by first | omega | (simp <;> omega))).trans (by first | (simp; done) | (simp [*]; done) | (simp [*, World.frozen?_alloc_at, World.frozen?_alloc_past, lt2, lt3, lt4]; done))
      go_wp2
      refine bodyPost_ret (v := .tuple #[.agg #[.int .i64 0, .int .i64 0], .bool false]) (by simp [results, Try.results16, go_sem, *, lt2, lt3, lt4, lt5, lt6]) rfl ⟨by rw [HR.out]; rfl, (by repeat (first | (with_reducible refine Below.drew ?_) | (with_reducible refine below_drewN ?_ _) | (with_reducible refine Below.alloc ?_ ?_ _) | (with_reducible refine Below.setCell ?_ ?_ _) | (with_reducible assumption) | (with_reducible exact Below.refl _ _) | omega | (simp <;> omega)))⟩
    · have HW := Lib.hid (fun W => HT'.out W _ ht')
      have hR := (show strTotal s l s' l' = sumFrom ⟨0, 1, true⟩ ((levelJs s l).map fun i => strSum s l i s' l') by unfold strTotal; rw [if_pos ⟨ht, ht'⟩])
      have HSO := Lib.hid (fun (W : World) (hx : Two W (w.heap.size + 1) s' l') => sumOverTotal s l (w.heap.size + 1) (fun i => strSum s l i s' l') W ht (fun i => strSum_or s l i s' l') (fun i W' hb => cloTotal s' l' s l i (w.heap.size + 1) W' HS6 (hx.below hb hx.2.2.2.2)))
      rw [← hR] at HSO
      clear ht ht' HS6 hR
      unfold roV at HSO ⊢
      generalize strTotal s l s' l' = r at *
      obtain ⟨rn, rd, rok⟩ := r
      go_enter Try.func16, Try.ntmps16
      go_wp2_with fail
      (with_reducible refine (HV.out _).mono ?_)
      rintro e w1 ⟨rfl, b1⟩
      have hz1 := b1.size
      obtain ⟨hc1, hf1⟩ := bcell b1
      have B1 : Below w.heap.size w w1 := Below.trans (by repeat (first | (with_reducible refine Below.drew ?_) | (with_reducible refine below_drewN ?_ _) | (with_reducible refine Below.alloc ?_ ?_ _) | (with_reducible refine Below.setCell ?_ ?_ _) | (with_reducible assumption) | (with_reducible exact Below.refl _ _) | omega | (simp <;> omega))) (b1.mono (by first | omega | (simp <;> omega)))
      (try simp at hz1)
      have hy1 : w.heap.size < w1.heap.size := by omega
      clear b1
      have kc1_0_0 : w1.cell? ⟨w.heap.size, 0, none⟩ = some (.int .i64 s) := (hc1 (w.heap.size) 0 (by first | omega | (simp <;> omega))).trans (by first | (simp; done) | (simp [*]; done) | (simp [*, World.cell?_alloc_at, World.cell?_alloc_past, World.cell?_alloc_lt, lt2, lt3, lt4]; done))
      have kc1_1_0 : w1.cell? ⟨w.heap.size, 1, none⟩ = some (.int .i64 l) := (hc1 (w.heap.size) 1 (by first | omega | (simp <;> omega))).trans (by first | (simp; done) | (simp [*]; done) | (simp [*, World.cell?_alloc_at, World.cell?_alloc_past, World.cell?_alloc_lt, lt2, lt3, lt4]; done))
      have kc1_0_1 : w1.cell? ⟨w.heap.size + 1, 0, none⟩ = some (.int .i64 s') := (hc1 (w.heap.size + 1) 0 (by first | omega | (simp <;> omega))).trans (by first | (simp; done) | (simp [*]; done) | (simp [*, World.cell?_alloc_at, World.cell?_alloc_past, World.cell?_alloc_lt, lt2, lt3, lt4]; done))
      have kc1_1_1 : w1.cell? ⟨w.heap.size + 1, 1, none⟩ = some (.int .i64 l') := (hc1 (w.heap.size + 1) 1 (by first | omega | (simp <;> omega))).trans (by first | (simp; done) | (simp [*]; done) | (simp [*, World.cell?_alloc_at, World.cell?_alloc_past, World.cell?_alloc_lt, lt2, lt3, lt4]; done))
      have kf1_0_1 : w1.frozen? ⟨w.heap.size + 1, 0, none⟩ = false := (hf1 (w.heap.size + 1) 0 (by first | omega | (simp <;> omega))).trans (by first | (simp; done) | (simp [*]; done) | (simp [*, World.frozen?_alloc_at, World.frozen?_alloc_past, lt2, lt3, lt4]; done))
      have kf1_1_1 : w1.frozen? ⟨w.heap.size + 1, 1, none⟩ = false := (hf1 (w.heap.size + 1) 1 (by first | omega | (simp <;> omega))).trans (by first | (simp; done) | (simp [*]; done) | (simp [*, World.frozen?_alloc_at, World.frozen?_alloc_past, lt2, lt3, lt4]; done))
      have kc1_0_2 : w1.cell? ⟨w.heap.size + 1 + 1, 0, none⟩ = some (.int .i64 0) := (hc1 (w.heap.size + 1 + 1) 0 (by first | omega | (simp <;> omega))).trans (by first | (simp; done) | (simp [*]; done) | (simp [*, World.cell?_alloc_at, World.cell?_alloc_past, World.cell?_alloc_lt, lt2, lt3, lt4]; done))
      have kc1_1_2 : w1.cell? ⟨w.heap.size + 1 + 1, 1, none⟩ = some (.int .i64 0) := (hc1 (w.heap.size + 1 + 1) 1 (by first | omega | (simp <;> omega))).trans (by first | (simp; done) | (simp [*]; done) | (simp [*, World.cell?_alloc_at, World.cell?_alloc_past, World.cell?_alloc_lt, lt2, lt3, lt4]; done))
      have kf1_0_2 : w1.frozen? ⟨w.heap.size + 1 + 1, 0, none⟩ = false := (hf1 (w.heap.size + 1 + 1) 0 (by first | omega | (simp <;> omega))).trans (by first | (simp; done) | (simp [*]; done) | (simp [*, World.frozen?_alloc_at, World.frozen?_alloc_past, lt2, lt3, lt4]; done))
      have kf1_1_2 : w1.frozen? ⟨w.heap.size + 1 + 1, 1, none⟩ = false := (hf1 (w.heap.size + 1 + 1) 1 (by first | omega | (simp <;> omega))).trans (by first | (simp; done) | (simp [*]; done) | (simp [*, World.frozen?_alloc_at, World.frozen?_alloc_past, lt2, lt3, lt4]; done))
      have hya1 : w.heap.size + 1 < w1.heap.size := by omega
      have hyb1 : w.heap.size + 1 + 1 < w1.heap.size := by omega
      go_wp2_with fail
      (with_reducible refine (HW.out _).mono ?_)
      rintro e w2 ⟨rfl, b2⟩
      have hz2 := b2.size
      obtain ⟨hc2, hf2⟩ := bcell b2
      have B2 : Below w.heap.size w w2 := Below.trans (by repeat (first | (with_reducible refine Below.drew ?_) | (with_reducible refine below_drewN ?_ _) | (with_reducible refine Below.alloc ?_ ?_ _) | (with_reducible refine Below.setCell ?_ ?_ _) | (with_reducible assumption) | (with_reducible exact Below.refl _ _) | omega | (simp <;> omega))) (b2.mono (by first | omega | (simp <;> omega)))
      (try simp at hz2)
      have hy2 : w.heap.size < w2.heap.size := by omega
      clear b2
      have kc2_0_0 : w2.cell? ⟨w.heap.size, 0, none⟩ = some (.int .i64 s) := (hc2 (w.heap.size) 0 (by first | omega | (simp <;> omega))).trans (by first | (simp; done) | (simp [*]; done) | (simp [*, World.cell?_alloc_at, World.cell?_alloc_past, World.cell?_alloc_lt, lt2, lt3, lt4]; done))
      have kc2_1_0 : w2.cell? ⟨w.heap.size, 1, none⟩ = some (.int .i64 l) := (hc2 (w.heap.size) 1 (by first | omega | (simp <;> omega))).trans (by first | (simp; done) | (simp [*]; done) | (simp [*, World.cell?_alloc_at, World.cell?_alloc_past, World.cell?_alloc_lt, lt2, lt3, lt4]; done))
      have kc2_0_1 : w2.cell? ⟨w.heap.size + 1, 0, none⟩ = some (.int .i64 s') := (hc2 (w.heap.size + 1) 0 (by first | omega | (simp <;> omega))).trans (by first | (simp; done) | (simp [*]; done) | (simp [*, World.cell?_alloc_at, World.cell?_alloc_past, World.cell?_alloc_lt, lt2, lt3, lt4]; done))
      have kc2_1_1 : w2.cell? ⟨w.heap.size + 1, 1, none⟩ = some (.int .i64 l') := (hc2 (w.heap.size + 1) 1 (by first | omega | (simp <;> omega))).trans (by first | (simp; done) | (simp [*]; done) | (simp [*, World.cell?_alloc_at, World.cell?_alloc_past, World.cell?_alloc_lt, lt2, lt3, lt4]; done))
      have kf2_0_1 : w2.frozen? ⟨w.heap.size + 1, 0, none⟩ = false := (hf2 (w.heap.size + 1) 0 (by first | omega | (simp <;> omega))).trans (by first | (simp; done) | (simp [*]; done) | (simp [*, World.frozen?_alloc_at, World.frozen?_alloc_past, lt2, lt3, lt4]; done))
      have kf2_1_1 : w2.frozen? ⟨w.heap.size + 1, 1, none⟩ = false := (hf2 (w.heap.size + 1) 1 (by first | omega | (simp <;> omega))).trans (by first | (simp; done) | (simp [*]; done) | (simp [*, World.frozen?_alloc_at, World.frozen?_alloc_past, lt2, lt3, lt4]; done))
      have kc2_0_2 : w2.cell? ⟨w.heap.size + 1 + 1, 0, none⟩ = some (.int .i64 0) := (hc2 (w.heap.size + 1 + 1) 0 (by first | omega | (simp <;> omega))).trans (by first | (simp; done) | (simp [*]; done) | (simp [*, World.cell?_alloc_at, World.cell?_alloc_past, World.cell?_alloc_lt, lt2, lt3, lt4]; done))
      have kc2_1_2 : w2.cell? ⟨w.heap.size + 1 + 1, 1, none⟩ = some (.int .i64 0) := (hc2 (w.heap.size + 1 + 1) 1 (by first | omega | (simp <;> omega))).trans (by first | (simp; done) | (simp [*]; done) | (simp [*, World.cell?_alloc_at, World.cell?_alloc_past, World.cell?_alloc_lt, lt2, lt3, lt4]; done))
      have kf2_0_2 : w2.frozen? ⟨w.heap.size + 1 + 1, 0, none⟩ = false := (hf2 (w.heap.size + 1 + 1) 0 (by first | omega | (simp <;> omega))).trans (by first | (simp; done) | (simp [*]; done) | (simp [*, World.frozen?_alloc_at, World.frozen?_alloc_past, lt2, lt3, lt4]; done))
      have kf2_1_2 : w2.frozen? ⟨w.heap.size + 1 + 1, 1, none⟩ = false := (hf2 (w.heap.size + 1 + 1) 1 (by first | omega | (simp <;> omega))).trans (by first | (simp; done) | (simp [*]; done) | (simp [*, World.frozen?_alloc_at, World.frozen?_alloc_past, lt2, lt3, lt4]; done))
      have TR2 := Lib.hid (show Two w2 (w.heap.size + 1 + 1) 0 0 from ⟨kc2_0_2, kc2_1_2, kf2_0_2, kf2_1_2, by omega⟩)
      have HX := Lib.hid (HSO.out w2 ⟨kc2_0_1, kc2_1_1, kf2_0_1, kf2_1_1, by omega⟩)
      clear hc1 hf1 hc2 hf2 kf2_0_2 kf2_1_2 kc2_0_2 kc2_1_2 kf1_0_2 kf1_1_2 kc1_0_2 kc1_1_2 kf1_0_1 kf1_1_1 kf2_0_1 kf2_1_1
      go_wp2_with fail
      (refine HX.out.mono ?_)
      rintro e w3 ⟨rfl, b3⟩
      have B3 : Below w.heap.size w w3 := B2.trans (b3.mono B2.size)
      obtain ⟨r0, r1, r2, r3, r4⟩ := TR2.out.below b3 TR2.out.2.2.2.2
      clear b3
      go_wp2
      refine bodyPost_ret (v := .tuple #[.agg #[.int .i64 rn, .int .i64 rd], .bool rok]) (by simp [results, Try.results16, go_sem, *, lt2, lt3, lt4, lt5, lt6]) rfl ⟨rfl, (by repeat (first | (with_reducible refine Below.drew ?_) | (with_reducible refine below_drewN ?_ _) | (with_reducible refine Below.alloc ?_ ?_ _) | (with_reducible refine Below.setCell ?_ ?_ _) | (with_reducible assumption) | (with_reducible exact Below.refl _ _) | omega | (simp <;> omega)))⟩

end Go.Proofs.Ythinhhfegflmmaa.StrengthI
