/-
  StrengthTotal: the reference's.
-/
import Derived.Test.YthinhhfegflmmaaStrengthS
namespace Go.Proofs.Ythinhhfegflmmaa.StrengthS
open Go.RowKit Go.Proofs.Ythinhhfegflmmaa.RatP Go.Proofs.Ythinhhfegflmmaa.Rat Go.Proofs.Ythinhhfegflmmaa.ChoP Go.Proofs.Ythinhhfegflmmaa.StrP Go.Proofs.Ythinhhfegflmmaa.Spin Go.Proofs.Ythinhhfegflmmaa.Row Go.Proofs.Ythinhhfegflmmaa.Coupled Go.Proofs.Ythinhhfegflmmaa.Later Go.Proofs.Ythinhhfegflmmaa.Two Go.Proofs.Ythinhhfegflmmaa.DrawTerm Go.Proofs.Ythinhhfegflmmaa.LineS
set_option linter.unusedVariables false
set_option linter.unusedSimpArgs false

set_option maxRecDepth 100000 in
set_option maxHeartbeats 8000000 in
theorem sStrengthTotal (s l s' l' : Int) (w : World) : Calls Try.prog 17 #[.agg #[.int .i64 s, .int .i64 l], .agg #[.int .i64 s', .int .i64 l']] w (Gives (roV (strTotal s l s' l')) w) := by
  have HLV := Lib.hid (fun W => sLevelsOf s l W)
  cases ht : termOk s l
  · have HR := Lib.hid (show strTotal s l s' l' = bad by unfold strTotal; rw [if_neg]; simp [ht])
    have hjs : levelJs s l = [] := levelJs_no ht
    rw [hjs] at HLV
    clear ht hjs
    go_enter Try.func17, Try.ntmps17
    go_wp2_with fail
    (with_reducible refine (HLV.out _).mono ?_)
    rintro e w1 ⟨v1, rfl, O1, b1⟩
    have B1 : Below w.heap.size w w1 := Below.trans (by repeat (first | (with_reducible refine Below.drew ?_) | (with_reducible refine below_drewN ?_ _) | (with_reducible refine Below.alloc ?_ ?_ _) | (with_reducible refine Below.setCell ?_ ?_ _) | (with_reducible assumption) | (with_reducible exact Below.refl _ _) | omega | (simp <;> omega))) (b1.mono (by first | omega | (simp <;> omega)))
    have R1 : Two w1 (w.heap.size + 1 + 1) 0 0 := Two.below (W := ((((w.alloc (.cells #[.int .i64 s, .int .i64 l] 24)).alloc (.cells #[.int .i64 s', .int .i64 l'] 24)).alloc (.cells #[.int .i64 0, .int .i64 0] 30)).alloc (.cells #[.int .i64 0, .int .i64 1] 30))) (by have h := (Two.new (((w.alloc (.cells #[.int .i64 s, .int .i64 l] 24)).alloc (.cells #[.int .i64 s', .int .i64 l'] 24))) 0 0 30).alloc (.cells #[.int .i64 0, .int .i64 1] 30); simpa using h) b1 (by simp)
    obtain ⟨a1, c1, e1⟩ := slice_form O1
    subst e1
    have hz1 := b1.size
    clear O1 b1
    obtain ⟨r0, r1, r2, r3, r4⟩ := R1
    go_wp2
    go_loopw [8] (fun i wr => i = .int .i64 0 ∧ w1 = wr) (fun _ _ => 0)
    case atStart => exact ⟨rfl, rfl⟩
    case round =>
      obtain ⟨rfl, rfl⟩ := hrel
      go_wp2
      refine bodyPost_ret (v := .tuple #[.agg #[.int .i64 0, .int .i64 0], .bool false]) (by simp [results, Try.results17, go_sem, *, lt2, lt3, lt4, lt5, lt6]) rfl ⟨by rw [HR.out]; rfl, (by repeat (first | (with_reducible refine Below.drew ?_) | (with_reducible refine below_drewN ?_ _) | (with_reducible refine Below.alloc ?_ ?_ _) | (with_reducible refine Below.setCell ?_ ?_ _) | (with_reducible assumption) | (with_reducible exact Below.refl _ _) | omega | (simp <;> omega)))⟩
  · have hjs := js_some ht
    have HFN := Lib.hid (show strTotal s l s' l' = if termOk s' l' = true then sumFrom ⟨0, 1, true⟩ ((levelJs s l).map fun i => strSum s l i s' l') else bad by unfold strTotal; simp [ht])

    have HFN2 := Lib.hid (show strTotal s l s' l' = sumFrom ⟨0, 1, true⟩ ((levelJs s l).map fun i => strSum s l i s' l') by
      rw [HFN.out]
      split
      · rfl
      · rename_i h
        have hb : ∀ i, strSum s l i s' l' = bad := fun i => by unfold strSum; rw [if_neg h]
        obtain ⟨x, xs, hx⟩ := List.exists_cons_of_ne_nil (List.ne_nil_of_length_pos hjs.1)
        rw [hx, List.map_cons, hb]
        show bad = if (addQ ⟨0, 1, true⟩ bad).ok = true then _ else bad
        rw [show addQ ⟨0, 1, true⟩ bad = bad from add_bad 0 1]; rfl)
    generalize strTotal s l s' l' = RES at *
    generalize levelJs s l = js at *
    clear ht
    have HPART := Lib.hid (fun (i : Int) W => sStrengthSum s l i s' l' W)
    have HOR := Lib.hid (fun i => strSum_or s l i s' l')
    obtain ⟨n, hn⟩ : ∃ n, n = js.length := ⟨_, rfl⟩
    have HN := Lib.hid hn
    obtain ⟨hj1, hj2⟩ := hjs
    rw [← hn] at hj1 hj2
    clear hn
    have hn0 : ((n : Int) == 0) = false := by rw [beq_eq_false_iff_ne]; omega
    have hn0' : (n == 0) = false := by rw [beq_eq_false_iff_ne]; omega
    go_enter Try.func17, Try.ntmps17
    go_wp2_with fail
    (with_reducible refine (HLV.out _).mono ?_)
    rintro e w1 ⟨v1, rfl, O1, b1⟩
    have B1 : Below w.heap.size w w1 := Below.trans (by repeat (first | (with_reducible refine Below.drew ?_) | (with_reducible refine below_drewN ?_ _) | (with_reducible refine Below.alloc ?_ ?_ _) | (with_reducible refine Below.setCell ?_ ?_ _) | (with_reducible assumption) | (with_reducible exact Below.refl _ _) | omega | (simp <;> omega))) (b1.mono (by first | omega | (simp <;> omega)))
    have X0 : Two ((((w.alloc (.cells #[.int .i64 s, .int .i64 l] 24)).alloc (.cells #[.int .i64 s', .int .i64 l'] 24)).alloc (.cells #[.int .i64 0, .int .i64 0] 30)).alloc (.cells #[.int .i64 0, .int .i64 1] 30)) (w.heap.size + 1 + 1) 0 0 := by have h := (Two.new (((w.alloc (.cells #[.int .i64 s, .int .i64 l] 24)).alloc (.cells #[.int .i64 s', .int .i64 l'] 24))) 0 0 30).alloc (.cells #[.int .i64 0, .int .i64 1] 30); simpa using h
    have X1 : Two ((((w.alloc (.cells #[.int .i64 s, .int .i64 l] 24)).alloc (.cells #[.int .i64 s', .int .i64 l'] 24)).alloc (.cells #[.int .i64 0, .int .i64 0] 30)).alloc (.cells #[.int .i64 0, .int .i64 1] 30)) (w.heap.size + 1 + 1 + 1) 0 1 := by have h := Two.new ((((w.alloc (.cells #[.int .i64 s, .int .i64 l] 24)).alloc (.cells #[.int .i64 s', .int .i64 l'] 24)).alloc (.cells #[.int .i64 0, .int .i64 0] 30))) 0 1 30; simpa using h
    have X2 : Two ((((w.alloc (.cells #[.int .i64 s, .int .i64 l] 24)).alloc (.cells #[.int .i64 s', .int .i64 l'] 24)).alloc (.cells #[.int .i64 0, .int .i64 0] 30)).alloc (.cells #[.int .i64 0, .int .i64 1] 30)) (w.heap.size + 1) s' l' := ⟨by simp [World.cell?_alloc_at, World.cell?_alloc_past, lt2, lt3, lt4], by simp [World.cell?_alloc_at, World.cell?_alloc_past, lt2, lt3, lt4], by simp [World.frozen?_alloc_at, World.frozen?_alloc_past, lt2, lt3, lt4], by simp [World.frozen?_alloc_at, World.frozen?_alloc_past, lt2, lt3, lt4], by simp <;> omega⟩
    have R1 := Lib.hid (X0.below b1 X0.2.2.2.2)
    have S1 := Lib.hid (X1.below b1 X1.2.2.2.2)
    have K1 := Lib.hid (X2.below b1 X2.2.2.2.2)
    have hz1 := b1.size
    simp at hz1
    rw [← HN.out] at O1
    obtain ⟨b, c, rfl, hb0, hbl, hnc, hcm, hcell⟩ := own_level (js := js) (by rw [← HN.out]; exact O1) (by rw [← HN.out]; exact hj1)
    rw [← HN.out] at hnc
    simp at hb0
    have HC := Lib.hid hcell
    have SB1 := Lib.hid (show Same b w1 w1 from ⟨hbl, fun _ => rfl⟩)
    clear O1 b1 X0 X1 X2 hcell
    rw [← HN.out]
    go_wp2
    go_loopw [8] (fun i wr => ∃ (m : Nat) (an ad : Int), m ≤ n ∧ i = .int .i64 m ∧ Two wr (w.heap.size + 1 + 1 + 1) an ad ∧ Two wr (w.heap.size + 1 + 1) 0 0 ∧ Two wr (w.heap.size + 1) s' l' ∧ Same b w1 wr ∧ Below w.heap.size w wr ∧ Hid (RES = sumFrom ⟨an, ad, true⟩ ((js.drop m).map fun i => strSum s l i s' l'))) (fun i _ => n - (intOf i).toNat)
    case atStart => exact ⟨0, 0, 1, by omega, rfl, S1.out, R1.out, K1.out, SB1.out, B1, Lib.hid HFN2.out⟩
    case round =>
      obtain ⟨m, an, ad, hm, rfl, hS1, hR1, hX1, hSB, hB, hG⟩ := hrel
      have hsz := hB.size
      have TS := Lib.hid hS1
      have TR := Lib.hid hR1
      have TX := Lib.hid hX1
      have SB := Lib.hid hSB
      clear hSB R1 S1 K1 SB1
      by_cases hlt : m < n
      · have hkl : m < js.length := by have := HN.out; omega
        obtain ⟨c0, c1, c2⟩ := HC.out m hkl
        have hY := sleft_next (g := fun i => strSum s l i s' l') hkl an ad
        generalize js[m] = jm at *
        have E0 := Lib.hid c0
        have E1 := Lib.hid c1
        have E2 := Lib.hid c2
        have HY := Lib.hid (hG.out.trans hY)
        have HO := Lib.hid (HOR.out jm)
        have HPART2 := Lib.hid (fun W => HPART.out jm W)
        clear hY hG c0 c1 c2
        unfold roV at HPART2
        have HADD := Lib.hid (fun x y W => sRatAdd an ad x y W)
        unfold roV at HADD
        generalize hr : strSum s l jm s' l' = r at *
        obtain ⟨rn, rd, rok⟩ := r
        have e0 := (SB.out.2 _).trans E0.out
        have e1 := (SB.out.2 _).trans E1.out
        have e2 := (SB.out.2 _).trans E2.out
        obtain ⟨x0, x1, x2, x3, x4⟩ := hX1
        obtain ⟨s0, s1, s2, s3, s4⟩ := hS1
        obtain ⟨r0, r1, r2, r3, r4⟩ := hR1
        have hbw : b < wr.heap.size := SB.out.1
        have neX : wr.heap.size ≠ w.heap.size + 1 := Nat.ne_of_gt TX.out.2.2.2.2
        have neB : wr.heap.size ≠ b := Nat.ne_of_gt SB.out.1
        clear hr
        go_upto_region 6 with fail
        go_cut [9, 10] (fun s9 s10 wx => ∃ T : Nat, w.heap.size + 1 + 1 + 1 < T ∧ s9 = .pointer (some ⟨T, 0, none⟩) ∧ s10 = .bool rok ∧ Two wx T rn rd ∧ Two wx (w.heap.size + 1 + 1 + 1) an ad ∧ Two wx (w.heap.size + 1 + 1) 0 0 ∧ Two wx (w.heap.size + 1) s' l' ∧ Same b w1 wx ∧ Below w.heap.size w wx)
        case first =>
          go_region_held3 (fun w' => w'.cell? ⟨w.heap.size + 1, 0, none⟩ = some (.int .i64 s') ∧ w'.cell? ⟨w.heap.size + 1, 1, none⟩ = some (.int .i64 l') ∧ w'.cell? ⟨b, m * 3, none⟩ = some (.int .i64 s) ∧ w'.cell? ⟨b, m * 3 + 1, none⟩ = some (.int .i64 l) ∧ w'.cell? ⟨b, m * 3 + 2, none⟩ = some (.int .i64 jm))
            (first | exact ⟨x0, x1, e0, e1, e2⟩ | (refine ⟨?_, ?_, ?_, ?_, ?_⟩ <;> (rw [World.cell?_setCell_far _ _ _ _ (by first | exact neX | exact neB), World.cell?_setCell_far _ _ _ _ (by first | exact neX | exact neB)]; assumption)) | go_keep)
            (first | ((with_reducible refine (HPART2.out _).mono ?_); rintro e w2 ⟨rfl, b2'⟩; have b2 : Below wr.heap.size wr w2 := ((Below.refl wr.heap.size wr).drew).trans b2'; clear b2'; have BB := hB.trans (b2.mono hsz); have TS2 := Lib.hid (Two.below (TS.out) b2 (TS.out).2.2.2.2); have TR2 := Lib.hid (Two.below (TR.out) b2 (TR.out).2.2.2.2); have TX2 := Lib.hid (Two.below (TX.out) b2 (TX.out).2.2.2.2); have SB2 := Lib.hid (Same.below (SB.out) b2 (SB.out).1); have x0 := TX2.out.1; have x1 := TX2.out.2.1; have e0 := (SB2.out.2 _).trans E0.out; have e1 := (SB2.out.2 _).trans E1.out; have e2 := (SB2.out.2 _).trans E2.out; clear b2)
                   | ((with_reducible refine (HPART2.out _).mono ?_); rintro e w2 ⟨rfl, b2'⟩; have b2 : Below (wr.alloc (.cells #[.int .i64 0, .int .i64 0] 30)).heap.size (wr.alloc (.cells #[.int .i64 0, .int .i64 0] 30)) w2 := ((Below.refl (wr.alloc (.cells #[.int .i64 0, .int .i64 0] 30)).heap.size (wr.alloc (.cells #[.int .i64 0, .int .i64 0] 30))).drew).trans b2'; clear b2'; have BB := ((hB.alloc hsz (.cells #[.int .i64 0, .int .i64 0] 30))).trans (b2.mono (Nat.le_trans hsz (by simp))); have TS2 := Lib.hid (Two.below (TS.out.alloc _) b2 (TS.out.alloc _).2.2.2.2); have TR2 := Lib.hid (Two.below (TR.out.alloc _) b2 (TR.out.alloc _).2.2.2.2); have TX2 := Lib.hid (Two.below (TX.out.alloc _) b2 (TX.out.alloc _).2.2.2.2); have SB2 := Lib.hid (Same.below (SB.out.alloc _) b2 (SB.out.alloc _).1); have TT2 := Lib.hid ((Two.new wr 0 0 30).below b2 (Two.new wr 0 0 30).2.2.2.2); have tf0 := TT2.out.1; have tf1 := TT2.out.2.1; have tf2 := TT2.out.2.2.1; have tf3 := TT2.out.2.2.2.1; have x0 := TX2.out.1; have x1 := TX2.out.2.1; have e0 := (SB2.out.2 _).trans E0.out; have e1 := (SB2.out.2 _).trans E1.out; have e2 := (SB2.out.2 _).trans E2.out; clear b2))
          · go_wp2_with fail
            clear s0 s1 s2 s3 s4 r0 r1 r2 r3 r4 x0 x1 x2 x3 x4 e0 e1 e2
            go_meet
            exact ⟨_, TS2.out.2.2.2.2, rfl, rfl, Two.new _ _ _ _, TS2.out.alloc _, TR2.out.alloc _, TX2.out.alloc _, SB2.out.alloc _, BB.alloc BB.size _⟩
          · go_wp2_with fail
            clear s0 s1 s2 s3 s4 r0 r1 r2 r3 r4 x0 x1 x2 x3 x4 e0 e1 e2 tf0 tf1 tf2 tf3
            go_meet
            exact ⟨_, TS.out.2.2.2.2, rfl, rfl, Two.put TT2.out _ _, (TS2.out.set (Nat.ne_of_gt TS.out.2.2.2.2) _).set (Nat.ne_of_gt TS.out.2.2.2.2) _, (TR2.out.set (Nat.ne_of_gt TR.out.2.2.2.2) _).set (Nat.ne_of_gt TR.out.2.2.2.2) _, (TX2.out.set neX _).set neX _, (SB2.out.set neB _).set neB _, (BB.setCell (p := ⟨wr.heap.size, 0, none⟩) hsz _).setCell (p := ⟨wr.heap.size, 1, none⟩) hsz _⟩
        case rest =>
          obtain ⟨T, hT, rfl, rfl, TT2', TS2', TR2', TX2', SB2', B2⟩ := hcut
          clear TS TR TX SB s0 s1 s2 s3 s4 r0 r1 r2 r3 r4 x0 x1 x2 x3 x4 e0 e1 e2 hB neX neB hbw hsz
          obtain ⟨w3, rfl⟩ : ∃ x : World, x = wc := ⟨_, rfl⟩
          have TS2 := Lib.hid TS2'
          have TR2 := Lib.hid TR2'
          have TX2 := Lib.hid TX2'
          have SB2 := Lib.hid SB2'
          obtain ⟨s0, s1, s2, s3, s4⟩ := TS2'
          obtain ⟨r0, r1, r2, r3, r4⟩ := TR2'
          obtain ⟨t0, t1, t2, t3, t4⟩ := TT2'
          clear TX2' SB2'
          cases rok
          · have hbad := HO.out rfl
            have HF := Lib.hid (show RES = bad by
              rw [HY.out]
              have h1 : rn = 0 := congrArg Ro.n hbad
              have h2 : rd = 0 := congrArg Ro.d hbad
              subst h1; subst h2
              show (if (addR an ad 0 0).ok = true then _ else bad) = bad
              rw [add_bad]; rfl)
            clear hbad HY HO
            go_wp2
            refine bodyPost_ret (v := .tuple #[.agg #[.int .i64 0, .int .i64 0], .bool false]) (by simp [results, Try.results17, go_sem, *, lt2, lt3, lt4, lt5, lt6]) rfl ⟨by rw [HF.out]; rfl, (by repeat (first | (with_reducible refine Below.drew ?_) | (with_reducible refine below_drewN ?_ _) | (with_reducible refine Below.alloc ?_ ?_ _) | (with_reducible refine Below.setCell ?_ ?_ _) | (with_reducible assumption) | (with_reducible exact Below.refl _ _) | omega | (simp <;> omega)))⟩
          · have HY2 := Lib.hid (show RES = if (addR an ad rn rd).ok = true then sumFrom (addR an ad rn rd) ((js.drop (m + 1)).map fun i => strSum s l i s' l') else bad from HY.out)
            have HA := Lib.hid (fun W => HADD.out rn rd W)
            clear HY HO HADD
            generalize addR an ad rn rd = q at *
            obtain ⟨qn, qd, qok⟩ := q
            go_wp2_with fail
            (with_reducible refine (HA.out _).mono ?_)
            rintro e w4 ⟨rfl, b4⟩
            have B4 : Below w.heap.size w w4 := B2.trans (b4.mono B2.size)
            have TS4 := Lib.hid (TS2.out.below b4 TS2.out.2.2.2.2)
            have TR4 := Lib.hid (TR2.out.below b4 TR2.out.2.2.2.2)
            have TX4 := Lib.hid (TX2.out.below b4 TX2.out.2.2.2.2)
            have SB4 := Lib.hid (SB2.out.below b4 SB2.out.1)
            clear b4 TS2 TR2 TX2 SB2 B2 s0 s1 s2 s3 s4 r0 r1 r2 r3 r4 t0 t1 t2 t3 t4
            obtain ⟨s0, s1, s2, s3, s4⟩ := TS4.out
            obtain ⟨r0, r1, r2, r3, r4⟩ := TR4.out
            cases qok
            · have HF := Lib.hid (HY2.out.trans (if_neg (by simp)))
              clear HY2
              go_wp2
              refine bodyPost_ret (v := .tuple #[.agg #[.int .i64 0, .int .i64 0], .bool false]) (by simp [results, Try.results17, go_sem, *, lt2, lt3, lt4, lt5, lt6]) rfl ⟨by rw [HF.out]; rfl, (by repeat (first | (with_reducible refine Below.drew ?_) | (with_reducible refine below_drewN ?_ _) | (with_reducible refine Below.alloc ?_ ?_ _) | (with_reducible refine Below.setCell ?_ ?_ _) | (with_reducible assumption) | (with_reducible exact Below.refl _ _) | omega | (simp <;> omega)))⟩
            · have HF := Lib.hid (HY2.out.trans (if_pos rfl))
              clear HY2
              have neR : w.heap.size + 1 + 1 + 1 ≠ w.heap.size + 1 + 1 := by omega
              have neX : w.heap.size + 1 + 1 + 1 ≠ w.heap.size + 1 := by omega
              have neB : w.heap.size + 1 + 1 + 1 ≠ b := by omega
              go_wp2
              go_roundw
              case rel => exact ⟨m + 1, qn, qd, by omega, by go_num, Two.put TS4.out qn qd, (TR4.out.set neR _).set neR _, (TX4.out.set neX _).set neX _, (SB4.out.set neB _).set neB _, (by repeat (first | (with_reducible refine Below.drew ?_) | (with_reducible refine below_drewN ?_ _) | (with_reducible refine Below.alloc ?_ ?_ _) | (with_reducible refine Below.setCell ?_ ?_ _) | (with_reducible assumption) | (with_reducible exact Below.refl _ _) | omega | (simp <;> omega))), HF⟩
              case measure => simp [intOf]; omega
      · have HF := Lib.hid (hG.out.trans (sleft_end (g := fun i => strSum s l i s' l') (by have := HN.out; omega) an ad))
        obtain ⟨s0, s1, s2, s3, s4⟩ := hS1
        obtain ⟨r0, r1, r2, r3, r4⟩ := hR1
        clear hG hX1
        go_wp2
        refine bodyPost_ret (v := .tuple #[.agg #[.int .i64 an, .int .i64 ad], .bool true]) (by simp [results, Try.results17, go_sem, *, lt2, lt3, lt4, lt5, lt6]) rfl ⟨by rw [HF.out]; rfl, (by repeat (first | (with_reducible refine Below.drew ?_) | (with_reducible refine below_drewN ?_ _) | (with_reducible refine Below.alloc ?_ ?_ _) | (with_reducible refine Below.setCell ?_ ?_ _) | (with_reducible assumption) | (with_reducible exact Below.refl _ _) | omega | (simp <;> omega)))⟩

end Go.Proofs.Ythinhhfegflmmaa.StrengthS
