/-
  The contract of SplitSpan, the program's.
-/
import Derived.Test.YtpollgibgphipaaDoorSplitSpanP
namespace Go.Proofs.YtpollgibgphipaaDoor.SplitSpan
open Go.RowKit Go.Proofs.YtpollgibgphipaaDoor.RatP Go.Proofs.YtpollgibgphipaaDoor.Rat Go.Proofs.YtpollgibgphipaaDoor.Spin Go.Proofs.YtpollgibgphipaaDoor.Row Go.Proofs.YtpollgibgphipaaDoor.Later Go.Proofs.YtpollgibgphipaaDoor.SplitPlain Go.Proofs.YtpollgibgphipaaDoor.SplitDef Go.Proofs.YtpollgibgphipaaDoor.SplitP Go.Proofs.YtpollgibgphipaaDoor.RowsSplit Go.Proofs.YtpollgibgphipaaDoor.Two
set_option linter.unusedVariables false
set_option linter.unusedSimpArgs false

set_option maxRecDepth 100000 in
set_option maxHeartbeats 8000000 in
theorem iSplitSpan (xs : List Sp) (v : Value) (w : World) (hs : Sees w 6 v xs.length (xs.flatMap encSp)) (hx : xs.length ≤ 1048576) :
    Calls Tryd.prog 21 #[v] w (Gives (roV (spanL xs)) w) := by
  obtain ⟨n, hn⟩ : ∃ n, n = xs.length := ⟨_, rfl⟩
  have HN := Lib.hid hn
  rw [← hn] at hs hx
  clear hn
  by_cases h0 : n = 0
  · have HE := Lib.hid (span_nil (xs := xs) (by have := HN.out; omega))
    subst h0
    rcases hs.2 with ⟨_, a, c, rfl⟩ | ⟨b, o, c, rfl, _⟩
    all_goals
      clear hs
      go_enter Tryd.func21, Tryd.ntmps21
      go_wp2
      refine bodyPost_ret (v := .tuple #[.agg #[.int .i64 0, .int .i64 0], .bool false]) (by simp [results, Tryd.results21, go_sem, *, lt2, lt3, lt4, lt5, lt6]) rfl ⟨by rw [HE.out]; rfl, (by repeat (first | (with_reducible refine Below.drew ?_) | (with_reducible refine below_drewN ?_ _) | (with_reducible refine Below.alloc ?_ ?_ _) | (with_reducible refine Below.setCell ?_ ?_ _) | (with_reducible assumption) | (with_reducible exact Below.refl _ _) | omega | (simp <;> omega)))⟩
  · rcases hs.2 with ⟨h, _⟩ | ⟨b, o, c, rfl, hnc, hcm, hb, hcell⟩
    · exact absurd h h0
    have HC := Lib.hid hcell
    unfold maxLen at hcm
    clear hs hcell
    have hn0 : ((n : Int) == 0) = false := by rw [beq_eq_false_iff_ne]; omega
    have hn0' : ((n : Nat) == 0) = false := by rw [beq_eq_false_iff_ne]; omega
    have hpos : 0 < n := by omega
    have hposI : (0 : Int) < (n : Int) := by omega
    obtain ⟨z0, z1, z2, z3, z4, z5⟩ := at_Split (w := w) (xs := xs) (b := b) (o := o) (fun j hj => HC.out j (by have := HN.out; omega)) 0 (by have := HN.out; omega)
    have hlen0 : 0 < xs.length := by have := HN.out; omega
    have hst := span_start (xs := xs) hlen0
    obtain ⟨y0, hy0⟩ : ∃ y, y = xs[0] := ⟨_, rfl⟩
    have hx0 : ∀ (m : Nat) (h : m < xs.length), m = 0 → xs[m].p = y0.p ∧ xs[m].q = y0.q := fun m h e => by subst e; rw [hy0]; exact ⟨rfl, rfl⟩
    have HX0 := Lib.hid hx0
    rw [← hy0] at z0 z1 z2 z3 z4 z5 hst
    have HST := Lib.hid hst
    clear hy0 hx0 hst
    obtain ⟨yu0, yl0, p0, q0, ys0, yt0⟩ := y0
    simp only [Nat.zero_mul, Nat.add_zero] at z0 z1 z2 z3 z4 z5
    have hb1 : b < w.heap.size + 1 := by omega
    have hb2 : b < w.heap.size + 1 + 1 := by omega
    have hb3 : b < w.heap.size + 1 + 1 + 1 := by omega
    go_enter Tryd.func21, Tryd.ntmps21
    go_wp2
    go_region
    all_goals go_wp2
    · have X0 : Two (((w.alloc (.cells #[.int .i64 0, .int .i64 0] 34)).alloc (.cells #[.int .i64 p0, .int .i64 q0] 34)).alloc (.cells #[.int .i64 p0, .int .i64 q0] 34)).drew w.heap.size 0 0 := ((Two.new w 0 0 34).alloc _).alloc _
      have X1 : Two (((w.alloc (.cells #[.int .i64 0, .int .i64 0] 34)).alloc (.cells #[.int .i64 p0, .int .i64 q0] 34)).alloc (.cells #[.int .i64 p0, .int .i64 q0] 34)).drew (w.heap.size + 1) p0 q0 := by refine Two.drew ?_; have h := (Two.new (w.alloc (.cells #[.int .i64 0, .int .i64 0] 34)) p0 q0 34).alloc (.cells #[.int .i64 p0, .int .i64 q0] 34); simpa using h
      have X2 : Two (((w.alloc (.cells #[.int .i64 0, .int .i64 0] 34)).alloc (.cells #[.int .i64 p0, .int .i64 q0] 34)).alloc (.cells #[.int .i64 p0, .int .i64 q0] 34)).drew (w.heap.size + 1 + 1) p0 q0 := by refine Two.drew ?_; have h := Two.new ((w.alloc (.cells #[.int .i64 0, .int .i64 0] 34)).alloc (.cells #[.int .i64 p0, .int .i64 q0] 34)) p0 q0 34; simpa using h
      have XB : Below w.heap.size w (((w.alloc (.cells #[.int .i64 0, .int .i64 0] 34)).alloc (.cells #[.int .i64 p0, .int .i64 q0] 34)).alloc (.cells #[.int .i64 p0, .int .i64 q0] 34)).drew := (by repeat (first | (with_reducible refine Below.drew ?_) | (with_reducible refine below_drewN ?_ _) | (with_reducible refine Below.alloc ?_ ?_ _) | (with_reducible refine Below.setCell ?_ ?_ _) | (with_reducible assumption) | (with_reducible exact Below.refl _ _) | omega | (simp <;> omega)))
      have XX0 := Lib.hid X0
      have XX1 := Lib.hid X1
      have XX2 := Lib.hid X2
      have XXB := Lib.hid XB
      clear X0 X1 X2 XB z0 z1 z2 z3 z4 z5
      go_loopw [22] (fun i wr => ∃ (m : Nat) (lp lq hp hq : Int), m ≤ n ∧ i = .int .i64 m ∧ Two wr (w.heap.size + 1) lp lq ∧ Two wr (w.heap.size + 1 + 1) hp hq ∧ Two wr w.heap.size 0 0 ∧ Below w.heap.size w wr ∧ Hid ((m = 0 → lp = p0 ∧ lq = q0 ∧ hp = p0 ∧ hq = q0) ∧ (0 < m → ratOk lp lq = true ∧ ratOk hp hq = true) ∧ spanL xs = spanFrom ⟨lp, lq, true⟩ ⟨hp, hq, true⟩ (shs (xs.drop m)))) (fun i _ => n - (intOf i).toNat)
      case atStart => exact ⟨0, p0, q0, p0, q0, by omega, rfl, XX1.out, XX2.out, XX0.out, XXB.out, Lib.hid ⟨fun _ => ⟨rfl, rfl, rfl, rfl⟩, fun h => absurd h (Nat.lt_irrefl 0), HST.out⟩⟩
      case round =>
        obtain ⟨m, lp, lq, hp, hq, hm, rfl, hL, hH, hR, hB, hG⟩ := hrel
        clear XX0 XX1 XX2 XXB
        have hsz := hB.size
        have TL := Lib.hid hL
        have TH := Lib.hid hH
        have TR := Lib.hid hR
        have hLlt := hL.2.2.2.2
        have hHlt := hH.2.2.2.2
        have hRlt := hR.2.2.2.2
        by_cases hlt : m < n
        · have hkl : m < xs.length := by have := HN.out; omega
          obtain ⟨u0, u1, u2, u3, u4, u5⟩ := at_Split (w := wr) (xs := xs) (b := b) (o := o) (fun j hj => (hB.cell (p := ⟨b, o + j, none⟩) hb).trans (HC.out j (by have := HN.out; omega))) m hkl
          have hbw : b < wr.heap.size := by omega
          have hbw1 : b < wr.heap.size + 1 := by omega
          have hY := span_next hkl ⟨lp, lq, true⟩ ⟨hp, hq, true⟩
          have hZ := HX0.out m hkl
          generalize xs[m] = y at *
          obtain ⟨yu, yl, yp, yq, ys, yt⟩ := y
          simp only at u0 u1 u2 u3 u4 u5 hY hZ
          have HZ := Lib.hid hZ
          have HY := Lib.hid (hG.out.2.2.trans hY)
          clear hY hZ hL hH hR
          cases hok : ratOk yp yq
          · have HV := Lib.hid (fun W => ivalid_is W hok)
            rw [hok] at HY
            have HF := Lib.hid (HY.out.trans (if_neg (by simp)))
            clear HY hok
            go_wp2_with fail
            (with_reducible refine (HV.out _).mono ?_)
            rintro e w2 ⟨rfl, b2⟩
            have B2 : Below w.heap.size w w2 := Below.trans (hB.alloc hsz _) (b2.mono (by first | (simp; done) | (simp; omega)))
            obtain ⟨r0, r1, r2, r3, r4⟩ := (TR.out.alloc (.cells #[.int .i64 yu, .int .i64 yl, .int .i64 yp, .int .i64 yq, .int .i64 ys, .int .i64 yt] 40)).below b2 (by first | (simp; done) | (simp; omega))
            clear b2
            go_wp2
            refine bodyPost_ret (v := .tuple #[.agg #[.int .i64 0, .int .i64 0], .bool false]) (by simp [results, Tryd.results21, go_sem, *, lt2, lt3, lt4, lt5, lt6]) rfl ⟨by rw [HF.out]; rfl, (by repeat (first | (with_reducible refine Below.drew ?_) | (with_reducible refine below_drewN ?_ _) | (with_reducible refine Below.alloc ?_ ?_ _) | (with_reducible refine Below.setCell ?_ ?_ _) | (with_reducible assumption) | (with_reducible exact Below.refl _ _) | omega | (simp <;> omega)))⟩
          · have HV := Lib.hid (fun W => ivalid_is W hok)
            have HF := Lib.hid (HY.out.trans (if_pos hok))
            have hvv : ratOk lp lq = true ∧ ratOk hp hq = true := by
              by_cases hm0 : m = 0
              · obtain ⟨e1, e2, e3, e4⟩ := hG.out.1 hm0
                obtain ⟨e5, e6⟩ := HZ.out hm0
                rw [e1, e2, e3, e4, ← e5, ← e6]; exact ⟨hok, hok⟩
              · exact hG.out.2.1 (by omega)
            have HVV := Lib.hid hvv
            have HOK := Lib.hid hok
            clear HY HZ hG
            have hlo := less_cmp hok hvv.1
            have hhi := less_cmp' hok hvv.2
            have HC1 := Lib.hid (fun W => compare_is W hok hvv.1 rfl)
            have HC2 := Lib.hid (fun W => compare_is W hok hvv.2 rfl)
            clear hvv hok
            generalize cmpI (yp * lq) (lp * yq) = k1 at *
            generalize cmpI (yp * hq) (hp * yq) = k2 at *
            rcases hlo with ⟨hl, hk1⟩ | ⟨hl, hk1⟩
            · rcases hhi with ⟨hh, hk2⟩ | ⟨hh, hk2⟩
              · have HG := Lib.hid HF.out
                rw [if_pos hl, if_pos hh] at HG
                clear hl hh HF
                go_wp2_with fail
                (with_reducible refine (HV.out _).mono ?_)
                rintro e w2 ⟨rfl, b2⟩
                have B2 : Below w.heap.size w w2 := Below.trans (hB.alloc hsz _) (b2.mono (by first | (simp; done) | (simp; omega)))
                have TL2 := Lib.hid ((TL.out.alloc (.cells #[.int .i64 yu, .int .i64 yl, .int .i64 yp, .int .i64 yq, .int .i64 ys, .int .i64 yt] 40)).below b2 (by first | (simp; done) | (simp; omega)))
                have TH2 := Lib.hid ((TH.out.alloc (.cells #[.int .i64 yu, .int .i64 yl, .int .i64 yp, .int .i64 yq, .int .i64 ys, .int .i64 yt] 40)).below b2 (by first | (simp; done) | (simp; omega)))
                have TR2 := Lib.hid ((TR.out.alloc (.cells #[.int .i64 yu, .int .i64 yl, .int .i64 yp, .int .i64 yq, .int .i64 ys, .int .i64 yt] 40)).below b2 (by first | (simp; done) | (simp; omega)))
                have q2 : w2.cell? ⟨wr.heap.size, 2, none⟩ = some (.int .i64 yp) := (b2.cell (p := ⟨wr.heap.size, 2, none⟩) (by simp)).trans (by simp)
                have q3 : w2.cell? ⟨wr.heap.size, 3, none⟩ = some (.int .i64 yq) := (b2.cell (p := ⟨wr.heap.size, 3, none⟩) (by simp)).trans (by simp)
                have hq2 : wr.heap.size < w2.heap.size := by have := b2.size; simp at this; omega
                clear b2 TL TH TR u0 u1 u2 u3 u4 u5 hB
                obtain ⟨l0, l1, l2, l3, l4⟩ := TL2.out
                go_wp2_with fail
                (with_reducible refine (HC1.out _).mono ?_)
                rintro e w3 ⟨rfl, b3⟩
                have B3 : Below w.heap.size w w3 := B2.trans (b3.mono (by omega))
                have TL3 := Lib.hid (TL2.out.below b3 TL2.out.2.2.2.2)
                have TH3 := Lib.hid (TH2.out.below b3 TH2.out.2.2.2.2)
                have TR3 := Lib.hid (TR2.out.below b3 TR2.out.2.2.2.2)
                have q2 := (b3.cell (p := ⟨wr.heap.size, 2, none⟩) hq2).trans q2
                have q3 := (b3.cell (p := ⟨wr.heap.size, 3, none⟩) hq2).trans q3
                have hq3 : wr.heap.size < w3.heap.size := Nat.lt_of_lt_of_le hq2 b3.size
                clear b3 TL2 TH2 TR2 B2 l0 l1 l2 l3 l4
                obtain ⟨l0, l1, l2, l3, l4⟩ := TL3.out
                obtain ⟨m0, m1, m2, m3, m4⟩ := TH3.out
                have neL : ¬ wr.heap.size = w.heap.size + 1 := by omega
                have neL' : ¬ w.heap.size + 1 = wr.heap.size := by omega
                have BX : Below w.heap.size w ((w3.setCell ⟨w.heap.size + 1, 0, none⟩ (.int .i64 yp)).setCell ⟨w.heap.size + 1, 1, none⟩ (.int .i64 yq)) := (B3.setCell (p := ⟨w.heap.size + 1, 0, none⟩) (by first | (simp; done) | (simp; omega)) _).setCell (p := ⟨w.heap.size + 1, 1, none⟩) (by first | (simp; done) | (simp; omega)) _
                have TLX := Lib.hid (Two.put TL3.out yp yq)
                have THX := Lib.hid ((TH3.out.set (p := ⟨w.heap.size + 1, 0, none⟩) (by simp) (.int .i64 yp)).set (p := ⟨w.heap.size + 1, 1, none⟩) (by simp) (.int .i64 yq))
                have TRX := Lib.hid ((TR3.out.set (p := ⟨w.heap.size + 1, 0, none⟩) (by first | (simp; done) | (simp; omega)) (.int .i64 yp)).set (p := ⟨w.heap.size + 1, 1, none⟩) (by first | (simp; done) | (simp; omega)) (.int .i64 yq))
                have qx2 : ((w3.setCell ⟨w.heap.size + 1, 0, none⟩ (.int .i64 yp)).setCell ⟨w.heap.size + 1, 1, none⟩ (.int .i64 yq)).cell? ⟨wr.heap.size, 2, none⟩ = some (.int .i64 yp) := by rw [World.cell?_setCell_far _ _ _ _ neL', World.cell?_setCell_far _ _ _ _ neL']; exact q2
                have qx3 : ((w3.setCell ⟨w.heap.size + 1, 0, none⟩ (.int .i64 yp)).setCell ⟨w.heap.size + 1, 1, none⟩ (.int .i64 yq)).cell? ⟨wr.heap.size, 3, none⟩ = some (.int .i64 yq) := by rw [World.cell?_setCell_far _ _ _ _ neL', World.cell?_setCell_far _ _ _ _ neL']; exact q3
                have hqx : wr.heap.size < ((w3.setCell ⟨w.heap.size + 1, 0, none⟩ (.int .i64 yp)).setCell ⟨w.heap.size + 1, 1, none⟩ (.int .i64 yq)).heap.size := by simpa [World.setCell] using hq3
                go_wp2_with fail
                (with_reducible refine (HC2.out _).mono ?_)
                rintro e w4 ⟨rfl, b4⟩
                have B4 : Below w.heap.size w w4 := BX.trans (b4.mono BX.size)
                have TL4 := Lib.hid (TLX.out.below b4 TLX.out.2.2.2.2)
                have TH4 := Lib.hid (THX.out.below b4 THX.out.2.2.2.2)
                have TR4 := Lib.hid (TRX.out.below b4 TRX.out.2.2.2.2)
                have q2 := (b4.cell (p := ⟨wr.heap.size, 2, none⟩) hqx).trans qx2
                have q3 := (b4.cell (p := ⟨wr.heap.size, 3, none⟩) hqx).trans qx3
                clear b4 l0 l1 l2 l3 l4 m0 m1 m2 m3 m4 TLX THX TRX TL3 TH3 TR3 BX B3 qx2 qx3
                obtain ⟨m0, m1, m2, m3, m4⟩ := TH4.out
                go_wp2
                go_roundw
                case rel => exact ⟨m + 1, yp, yq, yp, yq, by omega, by go_num, ((TL4.out.set (p := ⟨w.heap.size + 1 + 1, 0, none⟩) (by simp) _).set (p := ⟨w.heap.size + 1 + 1, 1, none⟩) (by simp) _), (Two.put TH4.out yp yq), ((TR4.out.set (p := ⟨w.heap.size + 1 + 1, 0, none⟩) (by first | (simp; done) | (simp; omega)) _).set (p := ⟨w.heap.size + 1 + 1, 1, none⟩) (by first | (simp; done) | (simp; omega)) _), ((B4.setCell (p := ⟨w.heap.size + 1 + 1, 0, none⟩) (by first | (simp; done) | (simp; omega)) _).setCell (p := ⟨w.heap.size + 1 + 1, 1, none⟩) (by first | (simp; done) | (simp; omega)) _), Lib.hid ⟨fun h => absurd h (Nat.succ_ne_zero m), fun _ => ⟨HOK.out, HOK.out⟩, HG.out⟩⟩
                case measure => simp [intOf]; omega
              · have HG := Lib.hid HF.out
                rw [if_pos hl, if_neg (by rw [hh]; simp)] at HG
                clear hl hh HF
                go_wp2_with fail
                (with_reducible refine (HV.out _).mono ?_)
                rintro e w2 ⟨rfl, b2⟩
                have B2 : Below w.heap.size w w2 := Below.trans (hB.alloc hsz _) (b2.mono (by first | (simp; done) | (simp; omega)))
                have TL2 := Lib.hid ((TL.out.alloc (.cells #[.int .i64 yu, .int .i64 yl, .int .i64 yp, .int .i64 yq, .int .i64 ys, .int .i64 yt] 40)).below b2 (by first | (simp; done) | (simp; omega)))
                have TH2 := Lib.hid ((TH.out.alloc (.cells #[.int .i64 yu, .int .i64 yl, .int .i64 yp, .int .i64 yq, .int .i64 ys, .int .i64 yt] 40)).below b2 (by first | (simp; done) | (simp; omega)))
                have TR2 := Lib.hid ((TR.out.alloc (.cells #[.int .i64 yu, .int .i64 yl, .int .i64 yp, .int .i64 yq, .int .i64 ys, .int .i64 yt] 40)).below b2 (by first | (simp; done) | (simp; omega)))
                have q2 : w2.cell? ⟨wr.heap.size, 2, none⟩ = some (.int .i64 yp) := (b2.cell (p := ⟨wr.heap.size, 2, none⟩) (by simp)).trans (by simp)
                have q3 : w2.cell? ⟨wr.heap.size, 3, none⟩ = some (.int .i64 yq) := (b2.cell (p := ⟨wr.heap.size, 3, none⟩) (by simp)).trans (by simp)
                have hq2 : wr.heap.size < w2.heap.size := by have := b2.size; simp at this; omega
                clear b2 TL TH TR u0 u1 u2 u3 u4 u5 hB
                obtain ⟨l0, l1, l2, l3, l4⟩ := TL2.out
                go_wp2_with fail
                (with_reducible refine (HC1.out _).mono ?_)
                rintro e w3 ⟨rfl, b3⟩
                have B3 : Below w.heap.size w w3 := B2.trans (b3.mono (by omega))
                have TL3 := Lib.hid (TL2.out.below b3 TL2.out.2.2.2.2)
                have TH3 := Lib.hid (TH2.out.below b3 TH2.out.2.2.2.2)
                have TR3 := Lib.hid (TR2.out.below b3 TR2.out.2.2.2.2)
                have q2 := (b3.cell (p := ⟨wr.heap.size, 2, none⟩) hq2).trans q2
                have q3 := (b3.cell (p := ⟨wr.heap.size, 3, none⟩) hq2).trans q3
                have hq3 : wr.heap.size < w3.heap.size := Nat.lt_of_lt_of_le hq2 b3.size
                clear b3 TL2 TH2 TR2 B2 l0 l1 l2 l3 l4
                obtain ⟨l0, l1, l2, l3, l4⟩ := TL3.out
                obtain ⟨m0, m1, m2, m3, m4⟩ := TH3.out
                have neL : ¬ wr.heap.size = w.heap.size + 1 := by omega
                have neL' : ¬ w.heap.size + 1 = wr.heap.size := by omega
                have BX : Below w.heap.size w ((w3.setCell ⟨w.heap.size + 1, 0, none⟩ (.int .i64 yp)).setCell ⟨w.heap.size + 1, 1, none⟩ (.int .i64 yq)) := (B3.setCell (p := ⟨w.heap.size + 1, 0, none⟩) (by first | (simp; done) | (simp; omega)) _).setCell (p := ⟨w.heap.size + 1, 1, none⟩) (by first | (simp; done) | (simp; omega)) _
                have TLX := Lib.hid (Two.put TL3.out yp yq)
                have THX := Lib.hid ((TH3.out.set (p := ⟨w.heap.size + 1, 0, none⟩) (by simp) (.int .i64 yp)).set (p := ⟨w.heap.size + 1, 1, none⟩) (by simp) (.int .i64 yq))
                have TRX := Lib.hid ((TR3.out.set (p := ⟨w.heap.size + 1, 0, none⟩) (by first | (simp; done) | (simp; omega)) (.int .i64 yp)).set (p := ⟨w.heap.size + 1, 1, none⟩) (by first | (simp; done) | (simp; omega)) (.int .i64 yq))
                have qx2 : ((w3.setCell ⟨w.heap.size + 1, 0, none⟩ (.int .i64 yp)).setCell ⟨w.heap.size + 1, 1, none⟩ (.int .i64 yq)).cell? ⟨wr.heap.size, 2, none⟩ = some (.int .i64 yp) := by rw [World.cell?_setCell_far _ _ _ _ neL', World.cell?_setCell_far _ _ _ _ neL']; exact q2
                have qx3 : ((w3.setCell ⟨w.heap.size + 1, 0, none⟩ (.int .i64 yp)).setCell ⟨w.heap.size + 1, 1, none⟩ (.int .i64 yq)).cell? ⟨wr.heap.size, 3, none⟩ = some (.int .i64 yq) := by rw [World.cell?_setCell_far _ _ _ _ neL', World.cell?_setCell_far _ _ _ _ neL']; exact q3
                have hqx : wr.heap.size < ((w3.setCell ⟨w.heap.size + 1, 0, none⟩ (.int .i64 yp)).setCell ⟨w.heap.size + 1, 1, none⟩ (.int .i64 yq)).heap.size := by simpa [World.setCell] using hq3
                go_wp2_with fail
                (with_reducible refine (HC2.out _).mono ?_)
                rintro e w4 ⟨rfl, b4⟩
                have B4 : Below w.heap.size w w4 := BX.trans (b4.mono BX.size)
                have TL4 := Lib.hid (TLX.out.below b4 TLX.out.2.2.2.2)
                have TH4 := Lib.hid (THX.out.below b4 THX.out.2.2.2.2)
                have TR4 := Lib.hid (TRX.out.below b4 TRX.out.2.2.2.2)
                have q2 := (b4.cell (p := ⟨wr.heap.size, 2, none⟩) hqx).trans qx2
                have q3 := (b4.cell (p := ⟨wr.heap.size, 3, none⟩) hqx).trans qx3
                clear b4 l0 l1 l2 l3 l4 m0 m1 m2 m3 m4 TLX THX TRX TL3 TH3 TR3 BX B3 qx2 qx3
                obtain ⟨m0, m1, m2, m3, m4⟩ := TH4.out
                go_wp2
                go_roundw
                case rel => exact ⟨m + 1, yp, yq, hp, hq, by omega, by go_num, TL4.out, TH4.out, TR4.out, B4, Lib.hid ⟨fun h => absurd h (Nat.succ_ne_zero m), fun _ => ⟨HOK.out, HVV.out.2⟩, HG.out⟩⟩
                case measure => simp [intOf]; omega
            · rcases hhi with ⟨hh, hk2⟩ | ⟨hh, hk2⟩
              · have HG := Lib.hid HF.out
                rw [if_neg (by rw [hl]; simp), if_pos hh] at HG
                clear hl hh HF
                go_wp2_with fail
                (with_reducible refine (HV.out _).mono ?_)
                rintro e w2 ⟨rfl, b2⟩
                have B2 : Below w.heap.size w w2 := Below.trans (hB.alloc hsz _) (b2.mono (by first | (simp; done) | (simp; omega)))
                have TL2 := Lib.hid ((TL.out.alloc (.cells #[.int .i64 yu, .int .i64 yl, .int .i64 yp, .int .i64 yq, .int .i64 ys, .int .i64 yt] 40)).below b2 (by first | (simp; done) | (simp; omega)))
                have TH2 := Lib.hid ((TH.out.alloc (.cells #[.int .i64 yu, .int .i64 yl, .int .i64 yp, .int .i64 yq, .int .i64 ys, .int .i64 yt] 40)).below b2 (by first | (simp; done) | (simp; omega)))
                have TR2 := Lib.hid ((TR.out.alloc (.cells #[.int .i64 yu, .int .i64 yl, .int .i64 yp, .int .i64 yq, .int .i64 ys, .int .i64 yt] 40)).below b2 (by first | (simp; done) | (simp; omega)))
                have q2 : w2.cell? ⟨wr.heap.size, 2, none⟩ = some (.int .i64 yp) := (b2.cell (p := ⟨wr.heap.size, 2, none⟩) (by simp)).trans (by simp)
                have q3 : w2.cell? ⟨wr.heap.size, 3, none⟩ = some (.int .i64 yq) := (b2.cell (p := ⟨wr.heap.size, 3, none⟩) (by simp)).trans (by simp)
                have hq2 : wr.heap.size < w2.heap.size := by have := b2.size; simp at this; omega
                clear b2 TL TH TR u0 u1 u2 u3 u4 u5 hB
                obtain ⟨l0, l1, l2, l3, l4⟩ := TL2.out
                go_wp2_with fail
                (with_reducible refine (HC1.out _).mono ?_)
                rintro e w3 ⟨rfl, b3⟩
                have B3 : Below w.heap.size w w3 := B2.trans (b3.mono (by omega))
                have TL3 := Lib.hid (TL2.out.below b3 TL2.out.2.2.2.2)
                have TH3 := Lib.hid (TH2.out.below b3 TH2.out.2.2.2.2)
                have TR3 := Lib.hid (TR2.out.below b3 TR2.out.2.2.2.2)
                have q2 := (b3.cell (p := ⟨wr.heap.size, 2, none⟩) hq2).trans q2
                have q3 := (b3.cell (p := ⟨wr.heap.size, 3, none⟩) hq2).trans q3
                have hq3 : wr.heap.size < w3.heap.size := Nat.lt_of_lt_of_le hq2 b3.size
                clear b3 TL2 TH2 TR2 B2 l0 l1 l2 l3 l4
                obtain ⟨l0, l1, l2, l3, l4⟩ := TL3.out
                obtain ⟨m0, m1, m2, m3, m4⟩ := TH3.out
                have neL : ¬ wr.heap.size = w.heap.size + 1 := by omega
                have neL' : ¬ w.heap.size + 1 = wr.heap.size := by omega
                have BX := B3
                have TLX := TL3
                have THX := TH3
                have TRX := TR3
                have qx2 := q2
                have qx3 := q3
                have hqx := hq3
                go_wp2_with fail
                (with_reducible refine (HC2.out _).mono ?_)
                rintro e w4 ⟨rfl, b4⟩
                have B4 : Below w.heap.size w w4 := BX.trans (b4.mono BX.size)
                have TL4 := Lib.hid (TLX.out.below b4 TLX.out.2.2.2.2)
                have TH4 := Lib.hid (THX.out.below b4 THX.out.2.2.2.2)
                have TR4 := Lib.hid (TRX.out.below b4 TRX.out.2.2.2.2)
                have q2 := (b4.cell (p := ⟨wr.heap.size, 2, none⟩) hqx).trans qx2
                have q3 := (b4.cell (p := ⟨wr.heap.size, 3, none⟩) hqx).trans qx3
                clear b4 l0 l1 l2 l3 l4 m0 m1 m2 m3 m4 TLX THX TRX TL3 TH3 TR3 BX B3 qx2 qx3
                obtain ⟨m0, m1, m2, m3, m4⟩ := TH4.out
                go_wp2
                go_roundw
                case rel => exact ⟨m + 1, lp, lq, yp, yq, by omega, by go_num, ((TL4.out.set (p := ⟨w.heap.size + 1 + 1, 0, none⟩) (by simp) _).set (p := ⟨w.heap.size + 1 + 1, 1, none⟩) (by simp) _), (Two.put TH4.out yp yq), ((TR4.out.set (p := ⟨w.heap.size + 1 + 1, 0, none⟩) (by first | (simp; done) | (simp; omega)) _).set (p := ⟨w.heap.size + 1 + 1, 1, none⟩) (by first | (simp; done) | (simp; omega)) _), ((B4.setCell (p := ⟨w.heap.size + 1 + 1, 0, none⟩) (by first | (simp; done) | (simp; omega)) _).setCell (p := ⟨w.heap.size + 1 + 1, 1, none⟩) (by first | (simp; done) | (simp; omega)) _), Lib.hid ⟨fun h => absurd h (Nat.succ_ne_zero m), fun _ => ⟨HVV.out.1, HOK.out⟩, HG.out⟩⟩
                case measure => simp [intOf]; omega
              · have HG := Lib.hid HF.out
                rw [if_neg (by rw [hl]; simp), if_neg (by rw [hh]; simp)] at HG
                clear hl hh HF
                go_wp2_with fail
                (with_reducible refine (HV.out _).mono ?_)
                rintro e w2 ⟨rfl, b2⟩
                have B2 : Below w.heap.size w w2 := Below.trans (hB.alloc hsz _) (b2.mono (by first | (simp; done) | (simp; omega)))
                have TL2 := Lib.hid ((TL.out.alloc (.cells #[.int .i64 yu, .int .i64 yl, .int .i64 yp, .int .i64 yq, .int .i64 ys, .int .i64 yt] 40)).below b2 (by first | (simp; done) | (simp; omega)))
                have TH2 := Lib.hid ((TH.out.alloc (.cells #[.int .i64 yu, .int .i64 yl, .int .i64 yp, .int .i64 yq, .int .i64 ys, .int .i64 yt] 40)).below b2 (by first | (simp; done) | (simp; omega)))
                have TR2 := Lib.hid ((TR.out.alloc (.cells #[.int .i64 yu, .int .i64 yl, .int .i64 yp, .int .i64 yq, .int .i64 ys, .int .i64 yt] 40)).below b2 (by first | (simp; done) | (simp; omega)))
                have q2 : w2.cell? ⟨wr.heap.size, 2, none⟩ = some (.int .i64 yp) := (b2.cell (p := ⟨wr.heap.size, 2, none⟩) (by simp)).trans (by simp)
                have q3 : w2.cell? ⟨wr.heap.size, 3, none⟩ = some (.int .i64 yq) := (b2.cell (p := ⟨wr.heap.size, 3, none⟩) (by simp)).trans (by simp)
                have hq2 : wr.heap.size < w2.heap.size := by have := b2.size; simp at this; omega
                clear b2 TL TH TR u0 u1 u2 u3 u4 u5 hB
                obtain ⟨l0, l1, l2, l3, l4⟩ := TL2.out
                go_wp2_with fail
                (with_reducible refine (HC1.out _).mono ?_)
                rintro e w3 ⟨rfl, b3⟩
                have B3 : Below w.heap.size w w3 := B2.trans (b3.mono (by omega))
                have TL3 := Lib.hid (TL2.out.below b3 TL2.out.2.2.2.2)
                have TH3 := Lib.hid (TH2.out.below b3 TH2.out.2.2.2.2)
                have TR3 := Lib.hid (TR2.out.below b3 TR2.out.2.2.2.2)
                have q2 := (b3.cell (p := ⟨wr.heap.size, 2, none⟩) hq2).trans q2
                have q3 := (b3.cell (p := ⟨wr.heap.size, 3, none⟩) hq2).trans q3
                have hq3 : wr.heap.size < w3.heap.size := Nat.lt_of_lt_of_le hq2 b3.size
                clear b3 TL2 TH2 TR2 B2 l0 l1 l2 l3 l4
                obtain ⟨l0, l1, l2, l3, l4⟩ := TL3.out
                obtain ⟨m0, m1, m2, m3, m4⟩ := TH3.out
                have neL : ¬ wr.heap.size = w.heap.size + 1 := by omega
                have neL' : ¬ w.heap.size + 1 = wr.heap.size := by omega
                have BX := B3
                have TLX := TL3
                have THX := TH3
                have TRX := TR3
                have qx2 := q2
                have qx3 := q3
                have hqx := hq3
                go_wp2_with fail
                (with_reducible refine (HC2.out _).mono ?_)
                rintro e w4 ⟨rfl, b4⟩
                have B4 : Below w.heap.size w w4 := BX.trans (b4.mono BX.size)
                have TL4 := Lib.hid (TLX.out.below b4 TLX.out.2.2.2.2)
                have TH4 := Lib.hid (THX.out.below b4 THX.out.2.2.2.2)
                have TR4 := Lib.hid (TRX.out.below b4 TRX.out.2.2.2.2)
                have q2 := (b4.cell (p := ⟨wr.heap.size, 2, none⟩) hqx).trans qx2
                have q3 := (b4.cell (p := ⟨wr.heap.size, 3, none⟩) hqx).trans qx3
                clear b4 l0 l1 l2 l3 l4 m0 m1 m2 m3 m4 TLX THX TRX TL3 TH3 TR3 BX B3 qx2 qx3
                obtain ⟨m0, m1, m2, m3, m4⟩ := TH4.out
                go_wp2
                go_roundw
                case rel => exact ⟨m + 1, lp, lq, hp, hq, by omega, by go_num, TL4.out, TH4.out, TR4.out, B4, Lib.hid ⟨fun h => absurd h (Nat.succ_ne_zero m), fun _ => ⟨HVV.out.1, HVV.out.2⟩, HG.out⟩⟩
                case measure => simp [intOf]; omega
        · obtain rfl : m = n := by omega
          have HF := Lib.hid (hG.out.2.2.trans (span_end (by have := HN.out; omega) ⟨lp, lq, true⟩ ⟨hp, hq, true⟩))
          obtain ⟨v1, v2, v3, v4⟩ := ok_parts (hG.out.2.1 hpos).1
          have HS := Lib.hid (fun W => iRatSub hp hq lp lq W (by omega) (by omega))
          obtain ⟨l0, l1, l2, l3, l4⟩ := TL.out
          obtain ⟨m0, m1, m2, m3, m4⟩ := TH.out
          clear hG hL hH hR v1 v2 v3 v4
          unfold roV at HS
          generalize subR hp hq lp lq = r at *
          obtain ⟨rn, rd, rok⟩ := r
          go_wp2_with fail
          (with_reducible refine (HS.out _).mono ?_)
          rintro e w2 ⟨rfl, b2⟩
          have B2 : Below w.heap.size w w2 := hB.trans (b2.mono hsz)
          obtain ⟨r0, r1, r2, r3, r4⟩ := TR.out.below b2 TR.out.2.2.2.2
          clear b2
          go_wp2
          refine bodyPost_ret (v := .tuple #[.agg #[.int .i64 rn, .int .i64 rd], .bool rok]) (by simp [results, Tryd.results21, go_sem, *, lt2, lt3, lt4, lt5, lt6]) rfl ⟨by rw [HF.out]; rfl, (by repeat (first | (with_reducible refine Below.drew ?_) | (with_reducible refine below_drewN ?_ _) | (with_reducible refine Below.alloc ?_ ?_ _) | (with_reducible refine Below.setCell ?_ ?_ _) | (with_reducible assumption) | (with_reducible exact Below.refl _ _) | omega | (simp <;> omega)))⟩
    · have X0 : Two (((w.alloc (.cells #[.int .i64 0, .int .i64 0] 34)).alloc (.cells #[.int .i64 p0, .int .i64 q0] 34)).alloc (.cells #[.int .i64 p0, .int .i64 q0] 34)).drew w.heap.size 0 0 := ((Two.new w 0 0 34).alloc _).alloc _
      have X1 : Two (((w.alloc (.cells #[.int .i64 0, .int .i64 0] 34)).alloc (.cells #[.int .i64 p0, .int .i64 q0] 34)).alloc (.cells #[.int .i64 p0, .int .i64 q0] 34)).drew (w.heap.size + 1) p0 q0 := by refine Two.drew ?_; have h := (Two.new (w.alloc (.cells #[.int .i64 0, .int .i64 0] 34)) p0 q0 34).alloc (.cells #[.int .i64 p0, .int .i64 q0] 34); simpa using h
      have X2 : Two (((w.alloc (.cells #[.int .i64 0, .int .i64 0] 34)).alloc (.cells #[.int .i64 p0, .int .i64 q0] 34)).alloc (.cells #[.int .i64 p0, .int .i64 q0] 34)).drew (w.heap.size + 1 + 1) p0 q0 := by refine Two.drew ?_; have h := Two.new ((w.alloc (.cells #[.int .i64 0, .int .i64 0] 34)).alloc (.cells #[.int .i64 p0, .int .i64 q0] 34)) p0 q0 34; simpa using h
      have XB : Below w.heap.size w (((w.alloc (.cells #[.int .i64 0, .int .i64 0] 34)).alloc (.cells #[.int .i64 p0, .int .i64 q0] 34)).alloc (.cells #[.int .i64 p0, .int .i64 q0] 34)).drew := (by repeat (first | (with_reducible refine Below.drew ?_) | (with_reducible refine below_drewN ?_ _) | (with_reducible refine Below.alloc ?_ ?_ _) | (with_reducible refine Below.setCell ?_ ?_ _) | (with_reducible assumption) | (with_reducible exact Below.refl _ _) | omega | (simp <;> omega)))
      have XX0 := Lib.hid X0
      have XX1 := Lib.hid X1
      have XX2 := Lib.hid X2
      have XXB := Lib.hid XB
      clear X0 X1 X2 XB z0 z1 z2 z3 z4 z5
      go_loopw [22] (fun i wr => ∃ (m : Nat) (lp lq hp hq : Int), m ≤ n ∧ i = .int .i64 m ∧ Two wr (w.heap.size + 1 + 1) lp lq ∧ Two wr (w.heap.size + 1) hp hq ∧ Two wr w.heap.size 0 0 ∧ Below w.heap.size w wr ∧ Hid ((m = 0 → lp = p0 ∧ lq = q0 ∧ hp = p0 ∧ hq = q0) ∧ (0 < m → ratOk lp lq = true ∧ ratOk hp hq = true) ∧ spanL xs = spanFrom ⟨lp, lq, true⟩ ⟨hp, hq, true⟩ (shs (xs.drop m)))) (fun i _ => n - (intOf i).toNat)
      case atStart => exact ⟨0, p0, q0, p0, q0, by omega, rfl, XX2.out, XX1.out, XX0.out, XXB.out, Lib.hid ⟨fun _ => ⟨rfl, rfl, rfl, rfl⟩, fun h => absurd h (Nat.lt_irrefl 0), HST.out⟩⟩
      case round =>
        obtain ⟨m, lp, lq, hp, hq, hm, rfl, hL, hH, hR, hB, hG⟩ := hrel
        clear XX0 XX1 XX2 XXB
        have hsz := hB.size
        have TL := Lib.hid hL
        have TH := Lib.hid hH
        have TR := Lib.hid hR
        have hLlt := hL.2.2.2.2
        have hHlt := hH.2.2.2.2
        have hRlt := hR.2.2.2.2
        by_cases hlt : m < n
        · have hkl : m < xs.length := by have := HN.out; omega
          obtain ⟨u0, u1, u2, u3, u4, u5⟩ := at_Split (w := wr) (xs := xs) (b := b) (o := o) (fun j hj => (hB.cell (p := ⟨b, o + j, none⟩) hb).trans (HC.out j (by have := HN.out; omega))) m hkl
          have hbw : b < wr.heap.size := by omega
          have hbw1 : b < wr.heap.size + 1 := by omega
          have hY := span_next hkl ⟨lp, lq, true⟩ ⟨hp, hq, true⟩
          have hZ := HX0.out m hkl
          generalize xs[m] = y at *
          obtain ⟨yu, yl, yp, yq, ys, yt⟩ := y
          simp only at u0 u1 u2 u3 u4 u5 hY hZ
          have HZ := Lib.hid hZ
          have HY := Lib.hid (hG.out.2.2.trans hY)
          clear hY hZ hL hH hR
          cases hok : ratOk yp yq
          · have HV := Lib.hid (fun W => ivalid_is W hok)
            rw [hok] at HY
            have HF := Lib.hid (HY.out.trans (if_neg (by simp)))
            clear HY hok
            go_wp2_with fail
            (with_reducible refine (HV.out _).mono ?_)
            rintro e w2 ⟨rfl, b2⟩
            have B2 : Below w.heap.size w w2 := Below.trans (hB.alloc hsz _) (b2.mono (by first | (simp; done) | (simp; omega)))
            obtain ⟨r0, r1, r2, r3, r4⟩ := (TR.out.alloc (.cells #[.int .i64 yu, .int .i64 yl, .int .i64 yp, .int .i64 yq, .int .i64 ys, .int .i64 yt] 40)).below b2 (by first | (simp; done) | (simp; omega))
            clear b2
            go_wp2
            refine bodyPost_ret (v := .tuple #[.agg #[.int .i64 0, .int .i64 0], .bool false]) (by simp [results, Tryd.results21, go_sem, *, lt2, lt3, lt4, lt5, lt6]) rfl ⟨by rw [HF.out]; rfl, (by repeat (first | (with_reducible refine Below.drew ?_) | (with_reducible refine below_drewN ?_ _) | (with_reducible refine Below.alloc ?_ ?_ _) | (with_reducible refine Below.setCell ?_ ?_ _) | (with_reducible assumption) | (with_reducible exact Below.refl _ _) | omega | (simp <;> omega)))⟩
          · have HV := Lib.hid (fun W => ivalid_is W hok)
            have HF := Lib.hid (HY.out.trans (if_pos hok))
            have hvv : ratOk lp lq = true ∧ ratOk hp hq = true := by
              by_cases hm0 : m = 0
              · obtain ⟨e1, e2, e3, e4⟩ := hG.out.1 hm0
                obtain ⟨e5, e6⟩ := HZ.out hm0
                rw [e1, e2, e3, e4, ← e5, ← e6]; exact ⟨hok, hok⟩
              · exact hG.out.2.1 (by omega)
            have HVV := Lib.hid hvv
            have HOK := Lib.hid hok
            clear HY HZ hG
            have hlo := less_cmp hok hvv.1
            have hhi := less_cmp' hok hvv.2
            have HC1 := Lib.hid (fun W => compare_is W hok hvv.1 rfl)
            have HC2 := Lib.hid (fun W => compare_is W hok hvv.2 rfl)
            clear hvv hok
            generalize cmpI (yp * lq) (lp * yq) = k1 at *
            generalize cmpI (yp * hq) (hp * yq) = k2 at *
            rcases hlo with ⟨hl, hk1⟩ | ⟨hl, hk1⟩
            · rcases hhi with ⟨hh, hk2⟩ | ⟨hh, hk2⟩
              · have HG := Lib.hid HF.out
                rw [if_pos hl, if_pos hh] at HG
                clear hl hh HF
                go_wp2_with fail
                (with_reducible refine (HV.out _).mono ?_)
                rintro e w2 ⟨rfl, b2⟩
                have B2 : Below w.heap.size w w2 := Below.trans (hB.alloc hsz _) (b2.mono (by first | (simp; done) | (simp; omega)))
                have TL2 := Lib.hid ((TL.out.alloc (.cells #[.int .i64 yu, .int .i64 yl, .int .i64 yp, .int .i64 yq, .int .i64 ys, .int .i64 yt] 40)).below b2 (by first | (simp; done) | (simp; omega)))
                have TH2 := Lib.hid ((TH.out.alloc (.cells #[.int .i64 yu, .int .i64 yl, .int .i64 yp, .int .i64 yq, .int .i64 ys, .int .i64 yt] 40)).below b2 (by first | (simp; done) | (simp; omega)))
                have TR2 := Lib.hid ((TR.out.alloc (.cells #[.int .i64 yu, .int .i64 yl, .int .i64 yp, .int .i64 yq, .int .i64 ys, .int .i64 yt] 40)).below b2 (by first | (simp; done) | (simp; omega)))
                have q2 : w2.cell? ⟨wr.heap.size, 2, none⟩ = some (.int .i64 yp) := (b2.cell (p := ⟨wr.heap.size, 2, none⟩) (by simp)).trans (by simp)
                have q3 : w2.cell? ⟨wr.heap.size, 3, none⟩ = some (.int .i64 yq) := (b2.cell (p := ⟨wr.heap.size, 3, none⟩) (by simp)).trans (by simp)
                have hq2 : wr.heap.size < w2.heap.size := by have := b2.size; simp at this; omega
                clear b2 TL TH TR u0 u1 u2 u3 u4 u5 hB
                obtain ⟨l0, l1, l2, l3, l4⟩ := TL2.out
                go_wp2_with fail
                (with_reducible refine (HC1.out _).mono ?_)
                rintro e w3 ⟨rfl, b3⟩
                have B3 : Below w.heap.size w w3 := B2.trans (b3.mono (by omega))
                have TL3 := Lib.hid (TL2.out.below b3 TL2.out.2.2.2.2)
                have TH3 := Lib.hid (TH2.out.below b3 TH2.out.2.2.2.2)
                have TR3 := Lib.hid (TR2.out.below b3 TR2.out.2.2.2.2)
                have q2 := (b3.cell (p := ⟨wr.heap.size, 2, none⟩) hq2).trans q2
                have q3 := (b3.cell (p := ⟨wr.heap.size, 3, none⟩) hq2).trans q3
                have hq3 : wr.heap.size < w3.heap.size := Nat.lt_of_lt_of_le hq2 b3.size
                clear b3 TL2 TH2 TR2 B2 l0 l1 l2 l3 l4
                obtain ⟨l0, l1, l2, l3, l4⟩ := TL3.out
                obtain ⟨m0, m1, m2, m3, m4⟩ := TH3.out
                have neL : ¬ wr.heap.size = w.heap.size + 1 + 1 := by omega
                have neL' : ¬ w.heap.size + 1 + 1 = wr.heap.size := by omega
                have BX : Below w.heap.size w ((w3.setCell ⟨w.heap.size + 1 + 1, 0, none⟩ (.int .i64 yp)).setCell ⟨w.heap.size + 1 + 1, 1, none⟩ (.int .i64 yq)) := (B3.setCell (p := ⟨w.heap.size + 1 + 1, 0, none⟩) (by first | (simp; done) | (simp; omega)) _).setCell (p := ⟨w.heap.size + 1 + 1, 1, none⟩) (by first | (simp; done) | (simp; omega)) _
                have TLX := Lib.hid (Two.put TL3.out yp yq)
                have THX := Lib.hid ((TH3.out.set (p := ⟨w.heap.size + 1 + 1, 0, none⟩) (by simp) (.int .i64 yp)).set (p := ⟨w.heap.size + 1 + 1, 1, none⟩) (by simp) (.int .i64 yq))
                have TRX := Lib.hid ((TR3.out.set (p := ⟨w.heap.size + 1 + 1, 0, none⟩) (by first | (simp; done) | (simp; omega)) (.int .i64 yp)).set (p := ⟨w.heap.size + 1 + 1, 1, none⟩) (by first | (simp; done) | (simp; omega)) (.int .i64 yq))
                have qx2 : ((w3.setCell ⟨w.heap.size + 1 + 1, 0, none⟩ (.int .i64 yp)).setCell ⟨w.heap.size + 1 + 1, 1, none⟩ (.int .i64 yq)).cell? ⟨wr.heap.size, 2, none⟩ = some (.int .i64 yp) := by rw [World.cell?_setCell_far _ _ _ _ neL', World.cell?_setCell_far _ _ _ _ neL']; exact q2
                have qx3 : ((w3.setCell ⟨w.heap.size + 1 + 1, 0, none⟩ (.int .i64 yp)).setCell ⟨w.heap.size + 1 + 1, 1, none⟩ (.int .i64 yq)).cell? ⟨wr.heap.size, 3, none⟩ = some (.int .i64 yq) := by rw [World.cell?_setCell_far _ _ _ _ neL', World.cell?_setCell_far _ _ _ _ neL']; exact q3
                have hqx : wr.heap.size < ((w3.setCell ⟨w.heap.size + 1 + 1, 0, none⟩ (.int .i64 yp)).setCell ⟨w.heap.size + 1 + 1, 1, none⟩ (.int .i64 yq)).heap.size := by simpa [World.setCell] using hq3
                go_wp2_with fail
                (with_reducible refine (HC2.out _).mono ?_)
                rintro e w4 ⟨rfl, b4⟩
                have B4 : Below w.heap.size w w4 := BX.trans (b4.mono BX.size)
                have TL4 := Lib.hid (TLX.out.below b4 TLX.out.2.2.2.2)
                have TH4 := Lib.hid (THX.out.below b4 THX.out.2.2.2.2)
                have TR4 := Lib.hid (TRX.out.below b4 TRX.out.2.2.2.2)
                have q2 := (b4.cell (p := ⟨wr.heap.size, 2, none⟩) hqx).trans qx2
                have q3 := (b4.cell (p := ⟨wr.heap.size, 3, none⟩) hqx).trans qx3
                clear b4 l0 l1 l2 l3 l4 m0 m1 m2 m3 m4 TLX THX TRX TL3 TH3 TR3 BX B3 qx2 qx3
                obtain ⟨m0, m1, m2, m3, m4⟩ := TH4.out
                go_wp2
                go_roundw
                case rel => exact ⟨m + 1, yp, yq, yp, yq, by omega, by go_num, ((TL4.out.set (p := ⟨w.heap.size + 1, 0, none⟩) (by simp) _).set (p := ⟨w.heap.size + 1, 1, none⟩) (by simp) _), (Two.put TH4.out yp yq), ((TR4.out.set (p := ⟨w.heap.size + 1, 0, none⟩) (by first | (simp; done) | (simp; omega)) _).set (p := ⟨w.heap.size + 1, 1, none⟩) (by first | (simp; done) | (simp; omega)) _), ((B4.setCell (p := ⟨w.heap.size + 1, 0, none⟩) (by first | (simp; done) | (simp; omega)) _).setCell (p := ⟨w.heap.size + 1, 1, none⟩) (by first | (simp; done) | (simp; omega)) _), Lib.hid ⟨fun h => absurd h (Nat.succ_ne_zero m), fun _ => ⟨HOK.out, HOK.out⟩, HG.out⟩⟩
                case measure => simp [intOf]; omega
              · have HG := Lib.hid HF.out
                rw [if_pos hl, if_neg (by rw [hh]; simp)] at HG
                clear hl hh HF
                go_wp2_with fail
                (with_reducible refine (HV.out _).mono ?_)
                rintro e w2 ⟨rfl, b2⟩
                have B2 : Below w.heap.size w w2 := Below.trans (hB.alloc hsz _) (b2.mono (by first | (simp; done) | (simp; omega)))
                have TL2 := Lib.hid ((TL.out.alloc (.cells #[.int .i64 yu, .int .i64 yl, .int .i64 yp, .int .i64 yq, .int .i64 ys, .int .i64 yt] 40)).below b2 (by first | (simp; done) | (simp; omega)))
                have TH2 := Lib.hid ((TH.out.alloc (.cells #[.int .i64 yu, .int .i64 yl, .int .i64 yp, .int .i64 yq, .int .i64 ys, .int .i64 yt] 40)).below b2 (by first | (simp; done) | (simp; omega)))
                have TR2 := Lib.hid ((TR.out.alloc (.cells #[.int .i64 yu, .int .i64 yl, .int .i64 yp, .int .i64 yq, .int .i64 ys, .int .i64 yt] 40)).below b2 (by first | (simp; done) | (simp; omega)))
                have q2 : w2.cell? ⟨wr.heap.size, 2, none⟩ = some (.int .i64 yp) := (b2.cell (p := ⟨wr.heap.size, 2, none⟩) (by simp)).trans (by simp)
                have q3 : w2.cell? ⟨wr.heap.size, 3, none⟩ = some (.int .i64 yq) := (b2.cell (p := ⟨wr.heap.size, 3, none⟩) (by simp)).trans (by simp)
                have hq2 : wr.heap.size < w2.heap.size := by have := b2.size; simp at this; omega
                clear b2 TL TH TR u0 u1 u2 u3 u4 u5 hB
                obtain ⟨l0, l1, l2, l3, l4⟩ := TL2.out
                go_wp2_with fail
                (with_reducible refine (HC1.out _).mono ?_)
                rintro e w3 ⟨rfl, b3⟩
                have B3 : Below w.heap.size w w3 := B2.trans (b3.mono (by omega))
                have TL3 := Lib.hid (TL2.out.below b3 TL2.out.2.2.2.2)
                have TH3 := Lib.hid (TH2.out.below b3 TH2.out.2.2.2.2)
                have TR3 := Lib.hid (TR2.out.below b3 TR2.out.2.2.2.2)
                have q2 := (b3.cell (p := ⟨wr.heap.size, 2, none⟩) hq2).trans q2
                have q3 := (b3.cell (p := ⟨wr.heap.size, 3, none⟩) hq2).trans q3
                have hq3 : wr.heap.size < w3.heap.size := Nat.lt_of_lt_of_le hq2 b3.size
                clear b3 TL2 TH2 TR2 B2 l0 l1 l2 l3 l4
                obtain ⟨l0, l1, l2, l3, l4⟩ := TL3.out
                obtain ⟨m0, m1, m2, m3, m4⟩ := TH3.out
                have neL : ¬ wr.heap.size = w.heap.size + 1 + 1 := by omega
                have neL' : ¬ w.heap.size + 1 + 1 = wr.heap.size := by omega
                have BX : Below w.heap.size w ((w3.setCell ⟨w.heap.size + 1 + 1, 0, none⟩ (.int .i64 yp)).setCell ⟨w.heap.size + 1 + 1, 1, none⟩ (.int .i64 yq)) := (B3.setCell (p := ⟨w.heap.size + 1 + 1, 0, none⟩) (by first | (simp; done) | (simp; omega)) _).setCell (p := ⟨w.heap.size + 1 + 1, 1, none⟩) (by first | (simp; done) | (simp; omega)) _
                have TLX := Lib.hid (Two.put TL3.out yp yq)
                have THX := Lib.hid ((TH3.out.set (p := ⟨w.heap.size + 1 + 1, 0, none⟩) (by simp) (.int .i64 yp)).set (p := ⟨w.heap.size + 1 + 1, 1, none⟩) (by simp) (.int .i64 yq))
                have TRX := Lib.hid ((TR3.out.set (p := ⟨w.heap.size + 1 + 1, 0, none⟩) (by first | (simp; done) | (simp; omega)) (.int .i64 yp)).set (p := ⟨w.heap.size + 1 + 1, 1, none⟩) (by first | (simp; done) | (simp; omega)) (.int .i64 yq))
                have qx2 : ((w3.setCell ⟨w.heap.size + 1 + 1, 0, none⟩ (.int .i64 yp)).setCell ⟨w.heap.size + 1 + 1, 1, none⟩ (.int .i64 yq)).cell? ⟨wr.heap.size, 2, none⟩ = some (.int .i64 yp) := by rw [World.cell?_setCell_far _ _ _ _ neL', World.cell?_setCell_far _ _ _ _ neL']; exact q2
                have qx3 : ((w3.setCell ⟨w.heap.size + 1 + 1, 0, none⟩ (.int .i64 yp)).setCell ⟨w.heap.size + 1 + 1, 1, none⟩ (.int .i64 yq)).cell? ⟨wr.heap.size, 3, none⟩ = some (.int .i64 yq) := by rw [World.cell?_setCell_far _ _ _ _ neL', World.cell?_setCell_far _ _ _ _ neL']; exact q3
                have hqx : wr.heap.size < ((w3.setCell ⟨w.heap.size + 1 + 1, 0, none⟩ (.int .i64 yp)).setCell ⟨w.heap.size + 1 + 1, 1, none⟩ (.int .i64 yq)).heap.size := by simpa [World.setCell] using hq3
                go_wp2_with fail
                (with_reducible refine (HC2.out _).mono ?_)
                rintro e w4 ⟨rfl, b4⟩
                have B4 : Below w.heap.size w w4 := BX.trans (b4.mono BX.size)
                have TL4 := Lib.hid (TLX.out.below b4 TLX.out.2.2.2.2)
                have TH4 := Lib.hid (THX.out.below b4 THX.out.2.2.2.2)
                have TR4 := Lib.hid (TRX.out.below b4 TRX.out.2.2.2.2)
                have q2 := (b4.cell (p := ⟨wr.heap.size, 2, none⟩) hqx).trans qx2
                have q3 := (b4.cell (p := ⟨wr.heap.size, 3, none⟩) hqx).trans qx3
                clear b4 l0 l1 l2 l3 l4 m0 m1 m2 m3 m4 TLX THX TRX TL3 TH3 TR3 BX B3 qx2 qx3
                obtain ⟨m0, m1, m2, m3, m4⟩ := TH4.out
                go_wp2
                go_roundw
                case rel => exact ⟨m + 1, yp, yq, hp, hq, by omega, by go_num, TL4.out, TH4.out, TR4.out, B4, Lib.hid ⟨fun h => absurd h (Nat.succ_ne_zero m), fun _ => ⟨HOK.out, HVV.out.2⟩, HG.out⟩⟩
                case measure => simp [intOf]; omega
            · rcases hhi with ⟨hh, hk2⟩ | ⟨hh, hk2⟩
              · have HG := Lib.hid HF.out
                rw [if_neg (by rw [hl]; simp), if_pos hh] at HG
                clear hl hh HF
                go_wp2_with fail
                (with_reducible refine (HV.out _).mono ?_)
                rintro e w2 ⟨rfl, b2⟩
                have B2 : Below w.heap.size w w2 := Below.trans (hB.alloc hsz _) (b2.mono (by first | (simp; done) | (simp; omega)))
                have TL2 := Lib.hid ((TL.out.alloc (.cells #[.int .i64 yu, .int .i64 yl, .int .i64 yp, .int .i64 yq, .int .i64 ys, .int .i64 yt] 40)).below b2 (by first | (simp; done) | (simp; omega)))
                have TH2 := Lib.hid ((TH.out.alloc (.cells #[.int .i64 yu, .int .i64 yl, .int .i64 yp, .int .i64 yq, .int .i64 ys, .int .i64 yt] 40)).below b2 (by first | (simp; done) | (simp; omega)))
                have TR2 := Lib.hid ((TR.out.alloc (.cells #[.int .i64 yu, .int .i64 yl, .int .i64 yp, .int .i64 yq, .int .i64 ys, .int .i64 yt] 40)).below b2 (by first | (simp; done) | (simp; omega)))
                have q2 : w2.cell? ⟨wr.heap.size, 2, none⟩ = some (.int .i64 yp) := (b2.cell (p := ⟨wr.heap.size, 2, none⟩) (by simp)).trans (by simp)
                have q3 : w2.cell? ⟨wr.heap.size, 3, none⟩ = some (.int .i64 yq) := (b2.cell (p := ⟨wr.heap.size, 3, none⟩) (by simp)).trans (by simp)
                have hq2 : wr.heap.size < w2.heap.size := by have := b2.size; simp at this; omega
                clear b2 TL TH TR u0 u1 u2 u3 u4 u5 hB
                obtain ⟨l0, l1, l2, l3, l4⟩ := TL2.out
                go_wp2_with fail
                (with_reducible refine (HC1.out _).mono ?_)
                rintro e w3 ⟨rfl, b3⟩
                have B3 : Below w.heap.size w w3 := B2.trans (b3.mono (by omega))
                have TL3 := Lib.hid (TL2.out.below b3 TL2.out.2.2.2.2)
                have TH3 := Lib.hid (TH2.out.below b3 TH2.out.2.2.2.2)
                have TR3 := Lib.hid (TR2.out.below b3 TR2.out.2.2.2.2)
                have q2 := (b3.cell (p := ⟨wr.heap.size, 2, none⟩) hq2).trans q2
                have q3 := (b3.cell (p := ⟨wr.heap.size, 3, none⟩) hq2).trans q3
                have hq3 : wr.heap.size < w3.heap.size := Nat.lt_of_lt_of_le hq2 b3.size
                clear b3 TL2 TH2 TR2 B2 l0 l1 l2 l3 l4
                obtain ⟨l0, l1, l2, l3, l4⟩ := TL3.out
                obtain ⟨m0, m1, m2, m3, m4⟩ := TH3.out
                have neL : ¬ wr.heap.size = w.heap.size + 1 + 1 := by omega
                have neL' : ¬ w.heap.size + 1 + 1 = wr.heap.size := by omega
                have BX := B3
                have TLX := TL3
                have THX := TH3
                have TRX := TR3
                have qx2 := q2
                have qx3 := q3
                have hqx := hq3
                go_wp2_with fail
                (with_reducible refine (HC2.out _).mono ?_)
                rintro e w4 ⟨rfl, b4⟩
                have B4 : Below w.heap.size w w4 := BX.trans (b4.mono BX.size)
                have TL4 := Lib.hid (TLX.out.below b4 TLX.out.2.2.2.2)
                have TH4 := Lib.hid (THX.out.below b4 THX.out.2.2.2.2)
                have TR4 := Lib.hid (TRX.out.below b4 TRX.out.2.2.2.2)
                have q2 := (b4.cell (p := ⟨wr.heap.size, 2, none⟩) hqx).trans qx2
                have q3 := (b4.cell (p := ⟨wr.heap.size, 3, none⟩) hqx).trans qx3
                clear b4 l0 l1 l2 l3 l4 m0 m1 m2 m3 m4 TLX THX TRX TL3 TH3 TR3 BX B3 qx2 qx3
                obtain ⟨m0, m1, m2, m3, m4⟩ := TH4.out
                go_wp2
                go_roundw
                case rel => exact ⟨m + 1, lp, lq, yp, yq, by omega, by go_num, ((TL4.out.set (p := ⟨w.heap.size + 1, 0, none⟩) (by simp) _).set (p := ⟨w.heap.size + 1, 1, none⟩) (by simp) _), (Two.put TH4.out yp yq), ((TR4.out.set (p := ⟨w.heap.size + 1, 0, none⟩) (by first | (simp; done) | (simp; omega)) _).set (p := ⟨w.heap.size + 1, 1, none⟩) (by first | (simp; done) | (simp; omega)) _), ((B4.setCell (p := ⟨w.heap.size + 1, 0, none⟩) (by first | (simp; done) | (simp; omega)) _).setCell (p := ⟨w.heap.size + 1, 1, none⟩) (by first | (simp; done) | (simp; omega)) _), Lib.hid ⟨fun h => absurd h (Nat.succ_ne_zero m), fun _ => ⟨HVV.out.1, HOK.out⟩, HG.out⟩⟩
                case measure => simp [intOf]; omega
              · have HG := Lib.hid HF.out
                rw [if_neg (by rw [hl]; simp), if_neg (by rw [hh]; simp)] at HG
                clear hl hh HF
                go_wp2_with fail
                (with_reducible refine (HV.out _).mono ?_)
                rintro e w2 ⟨rfl, b2⟩
                have B2 : Below w.heap.size w w2 := Below.trans (hB.alloc hsz _) (b2.mono (by first | (simp; done) | (simp; omega)))
                have TL2 := Lib.hid ((TL.out.alloc (.cells #[.int .i64 yu, .int .i64 yl, .int .i64 yp, .int .i64 yq, .int .i64 ys, .int .i64 yt] 40)).below b2 (by first | (simp; done) | (simp; omega)))
                have TH2 := Lib.hid ((TH.out.alloc (.cells #[.int .i64 yu, .int .i64 yl, .int .i64 yp, .int .i64 yq, .int .i64 ys, .int .i64 yt] 40)).below b2 (by first | (simp; done) | (simp; omega)))
                have TR2 := Lib.hid ((TR.out.alloc (.cells #[.int .i64 yu, .int .i64 yl, .int .i64 yp, .int .i64 yq, .int .i64 ys, .int .i64 yt] 40)).below b2 (by first | (simp; done) | (simp; omega)))
                have q2 : w2.cell? ⟨wr.heap.size, 2, none⟩ = some (.int .i64 yp) := (b2.cell (p := ⟨wr.heap.size, 2, none⟩) (by simp)).trans (by simp)
                have q3 : w2.cell? ⟨wr.heap.size, 3, none⟩ = some (.int .i64 yq) := (b2.cell (p := ⟨wr.heap.size, 3, none⟩) (by simp)).trans (by simp)
                have hq2 : wr.heap.size < w2.heap.size := by have := b2.size; simp at this; omega
                clear b2 TL TH TR u0 u1 u2 u3 u4 u5 hB
                obtain ⟨l0, l1, l2, l3, l4⟩ := TL2.out
                go_wp2_with fail
                (with_reducible refine (HC1.out _).mono ?_)
                rintro e w3 ⟨rfl, b3⟩
                have B3 : Below w.heap.size w w3 := B2.trans (b3.mono (by omega))
                have TL3 := Lib.hid (TL2.out.below b3 TL2.out.2.2.2.2)
                have TH3 := Lib.hid (TH2.out.below b3 TH2.out.2.2.2.2)
                have TR3 := Lib.hid (TR2.out.below b3 TR2.out.2.2.2.2)
                have q2 := (b3.cell (p := ⟨wr.heap.size, 2, none⟩) hq2).trans q2
                have q3 := (b3.cell (p := ⟨wr.heap.size, 3, none⟩) hq2).trans q3
                have hq3 : wr.heap.size < w3.heap.size := Nat.lt_of_lt_of_le hq2 b3.size
                clear b3 TL2 TH2 TR2 B2 l0 l1 l2 l3 l4
                obtain ⟨l0, l1, l2, l3, l4⟩ := TL3.out
                obtain ⟨m0, m1, m2, m3, m4⟩ := TH3.out
                have neL : ¬ wr.heap.size = w.heap.size + 1 + 1 := by omega
                have neL' : ¬ w.heap.size + 1 + 1 = wr.heap.size := by omega
                have BX := B3
                have TLX := TL3
                have THX := TH3
                have TRX := TR3
                have qx2 := q2
                have qx3 := q3
                have hqx := hq3
                go_wp2_with fail
                (with_reducible refine (HC2.out _).mono ?_)
                rintro e w4 ⟨rfl, b4⟩
                have B4 : Below w.heap.size w w4 := BX.trans (b4.mono BX.size)
                have TL4 := Lib.hid (TLX.out.below b4 TLX.out.2.2.2.2)
                have TH4 := Lib.hid (THX.out.below b4 THX.out.2.2.2.2)
                have TR4 := Lib.hid (TRX.out.below b4 TRX.out.2.2.2.2)
                have q2 := (b4.cell (p := ⟨wr.heap.size, 2, none⟩) hqx).trans qx2
                have q3 := (b4.cell (p := ⟨wr.heap.size, 3, none⟩) hqx).trans qx3
                clear b4 l0 l1 l2 l3 l4 m0 m1 m2 m3 m4 TLX THX TRX TL3 TH3 TR3 BX B3 qx2 qx3
                obtain ⟨m0, m1, m2, m3, m4⟩ := TH4.out
                go_wp2
                go_roundw
                case rel => exact ⟨m + 1, lp, lq, hp, hq, by omega, by go_num, TL4.out, TH4.out, TR4.out, B4, Lib.hid ⟨fun h => absurd h (Nat.succ_ne_zero m), fun _ => ⟨HVV.out.1, HVV.out.2⟩, HG.out⟩⟩
                case measure => simp [intOf]; omega
        · obtain rfl : m = n := by omega
          have HF := Lib.hid (hG.out.2.2.trans (span_end (by have := HN.out; omega) ⟨lp, lq, true⟩ ⟨hp, hq, true⟩))
          obtain ⟨v1, v2, v3, v4⟩ := ok_parts (hG.out.2.1 hpos).1
          have HS := Lib.hid (fun W => iRatSub hp hq lp lq W (by omega) (by omega))
          obtain ⟨l0, l1, l2, l3, l4⟩ := TL.out
          obtain ⟨m0, m1, m2, m3, m4⟩ := TH.out
          clear hG hL hH hR v1 v2 v3 v4
          unfold roV at HS
          generalize subR hp hq lp lq = r at *
          obtain ⟨rn, rd, rok⟩ := r
          go_wp2_with fail
          (with_reducible refine (HS.out _).mono ?_)
          rintro e w2 ⟨rfl, b2⟩
          have B2 : Below w.heap.size w w2 := hB.trans (b2.mono hsz)
          obtain ⟨r0, r1, r2, r3, r4⟩ := TR.out.below b2 TR.out.2.2.2.2
          clear b2
          go_wp2
          refine bodyPost_ret (v := .tuple #[.agg #[.int .i64 rn, .int .i64 rd], .bool rok]) (by simp [results, Tryd.results21, go_sem, *, lt2, lt3, lt4, lt5, lt6]) rfl ⟨by rw [HF.out]; rfl, (by repeat (first | (with_reducible refine Below.drew ?_) | (with_reducible refine below_drewN ?_ _) | (with_reducible refine Below.alloc ?_ ?_ _) | (with_reducible refine Below.setCell ?_ ?_ _) | (with_reducible assumption) | (with_reducible exact Below.refl _ _) | omega | (simp <;> omega)))⟩

end Go.Proofs.YtpollgibgphipaaDoor.SplitSpan