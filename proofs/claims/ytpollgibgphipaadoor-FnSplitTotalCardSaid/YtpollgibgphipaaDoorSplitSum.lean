/-
  Contracts of SplitSum, the program's and the reference's.
-/
import Derived.Test.YtpollgibgphipaaDoorSplitR
import Derived.Test.YtpollgibgphipaaDoorSplitLaws
import Derived.Test.YtpollgibgphipaaDoorTwo
import Derived.Deep.DeepCutAuto
import Derived.Deep.Light
namespace Go.Proofs.YtpollgibgphipaaDoor.SplitSum
open Go.RowKit Go.Proofs.YtpollgibgphipaaDoor.RatP Go.Proofs.YtpollgibgphipaaDoor.Rat Go.Proofs.YtpollgibgphipaaDoor.Spin Go.Proofs.YtpollgibgphipaaDoor.Row Go.Proofs.YtpollgibgphipaaDoor.Later Go.Proofs.YtpollgibgphipaaDoor.SplitPlain Go.Proofs.YtpollgibgphipaaDoor.SplitDef Go.Proofs.YtpollgibgphipaaDoor.SplitP Go.Proofs.YtpollgibgphipaaDoor.RowsSplit Go.Proofs.YtpollgibgphipaaDoor.Two
set_option linter.unusedVariables false
set_option linter.unusedSimpArgs false

/-- what is left to add up -/
theorem left_zero (xs : List Sp) : sumFrom ⟨0, 1, true⟩ (ros (xs.drop 0)) = sumL xs := rfl
theorem left_next {xs : List Sp} {m : Nat} (hm : m < xs.length) (an ad : Int) : sumFrom ⟨an, ad, true⟩ (ros (xs.drop m)) = if (addR an ad xs[m].s xs[m].t).ok = true then sumFrom (addR an ad xs[m].s xs[m].t) (ros (xs.drop (m + 1))) else bad := by
  rw [List.drop_eq_getElem_cons hm]; rfl
theorem left_end {xs : List Sp} {m : Nat} (hm : xs.length ≤ m) (an ad : Int) : sumFrom ⟨an, ad, true⟩ (ros (xs.drop m)) = ⟨an, ad, true⟩ := by
  rw [List.drop_eq_nil_of_le hm]; rfl

set_option maxRecDepth 100000 in
set_option maxHeartbeats 4000000 in
theorem iSplitSum (xs : List Sp) (v : Value) (w : World) (hs : Sees w 6 v xs.length (xs.flatMap encSp)) (hx : xs.length ≤ 1048576) :
    Calls Tryd.prog 19 #[v] w (Gives (roV (sumL xs)) w) := by
  obtain ⟨n, hn⟩ : ∃ n, n = xs.length := ⟨_, rfl⟩
  have HN := Lib.hid hn
  rw [← hn] at hs hx
  clear hn
  rcases hs.2 with ⟨rfl, a, c, rfl⟩ | ⟨b, o, c, rfl, hnc, hcm, hb, hcell⟩
  · have HE := Lib.hid (List.eq_nil_of_length_eq_zero HN.out.symm)
    clear hs
    go_enter Tryd.func19, Tryd.ntmps19
    go_wp2_with fail
    (with_reducible refine (iwhole 0 _).mono ?_)
    rintro e w1 ⟨rfl, b1⟩
    have hz1 := b1.size
    obtain ⟨hc1, hf1⟩ := bcell b1
    have B1 : Below w.heap.size w w1 := Below.trans (by repeat (first | (with_reducible refine Below.drew ?_) | (with_reducible refine below_drewN ?_ _) | (with_reducible refine Below.alloc ?_ ?_ _) | (with_reducible refine Below.setCell ?_ ?_ _) | (with_reducible assumption) | (with_reducible exact Below.refl _ _) | omega | (simp <;> omega))) (b1.mono (by first | omega | (simp <;> omega)))
    (try simp at hz1)
    have hy1 : w.heap.size < w1.heap.size := by omega
    clear b1
    have kc1_0_0 : w1.cell? ⟨w.heap.size, 0, none⟩ = some (.int .i64 0) := (hc1 (w.heap.size) 0 (by first | omega | (simp <;> omega))).trans (by first | (simp; done) | (simp [*]; done) | (simp [*, World.cell?_alloc_at, World.cell?_alloc_past, World.cell?_alloc_lt, lt2, lt3, lt4]; done))
    have kc1_1_0 : w1.cell? ⟨w.heap.size, 1, none⟩ = some (.int .i64 0) := (hc1 (w.heap.size) 1 (by first | omega | (simp <;> omega))).trans (by first | (simp; done) | (simp [*]; done) | (simp [*, World.cell?_alloc_at, World.cell?_alloc_past, World.cell?_alloc_lt, lt2, lt3, lt4]; done))
    have kf1_0_0 : w1.frozen? ⟨w.heap.size, 0, none⟩ = false := (hf1 (w.heap.size) 0 (by first | omega | (simp <;> omega))).trans (by first | (simp; done) | (simp [*]; done) | (simp [*, World.frozen?_alloc_at, World.frozen?_alloc_past, lt2, lt3, lt4]; done))
    have kf1_1_0 : w1.frozen? ⟨w.heap.size, 1, none⟩ = false := (hf1 (w.heap.size) 1 (by first | omega | (simp <;> omega))).trans (by first | (simp; done) | (simp [*]; done) | (simp [*, World.frozen?_alloc_at, World.frozen?_alloc_past, lt2, lt3, lt4]; done))
    have R1 : Two w1 w.heap.size 0 0 := ⟨kc1_0_0, kc1_1_0, kf1_0_0, kf1_1_0, by omega⟩
    clear hc1 hf1 kc1_0_0 kc1_1_0 kf1_0_0 kf1_1_0
    go_wp2
    go_loopw [5, 11] (fun u i wr => u = .bool true ∧ i = .int .i64 0 ∧ Two wr w1.heap.size 0 1 ∧ Two wr w.heap.size 0 0 ∧ Below w.heap.size w wr) (fun _ _ _ => 0)
    case atStart => exact ⟨rfl, rfl, Two.new w1 0 1 34, R1.alloc _, B1.alloc (by omega) _⟩
    case round =>
      obtain ⟨rfl, rfl, hS1, hR1, hB⟩ := hrel
      have hsz := hB.size
      obtain ⟨s0, s1, s2, s3, s4⟩ := hS1
      obtain ⟨r0, r1, r2, r3, r4⟩ := hR1
      go_wp2
      refine bodyPost_ret (v := .tuple #[.agg #[.int .i64 (0), .int .i64 (1)], .bool true]) (by simp [results, Tryd.results19, go_sem, *, lt2, lt3, lt4, lt5, lt6]) rfl ⟨by rw [HE.out]; rfl, (by repeat (first | (with_reducible refine Below.drew ?_) | (with_reducible refine below_drewN ?_ _) | (with_reducible refine Below.alloc ?_ ?_ _) | (with_reducible refine Below.setCell ?_ ?_ _) | (with_reducible assumption) | (with_reducible exact Below.refl _ _) | omega | (simp <;> omega)))⟩
  · have HC := Lib.hid hcell
    unfold maxLen at hcm
    clear hs hcell
    go_enter Tryd.func19, Tryd.ntmps19
    go_wp2_with fail
    (with_reducible refine (iwhole 0 _).mono ?_)
    rintro e w1 ⟨rfl, b1⟩
    have hz1 := b1.size
    obtain ⟨hc1, hf1⟩ := bcell b1
    have B1 : Below w.heap.size w w1 := Below.trans (by repeat (first | (with_reducible refine Below.drew ?_) | (with_reducible refine below_drewN ?_ _) | (with_reducible refine Below.alloc ?_ ?_ _) | (with_reducible refine Below.setCell ?_ ?_ _) | (with_reducible assumption) | (with_reducible exact Below.refl _ _) | omega | (simp <;> omega))) (b1.mono (by first | omega | (simp <;> omega)))
    (try simp at hz1)
    have hy1 : w.heap.size < w1.heap.size := by omega
    clear b1
    have kc1_0_0 : w1.cell? ⟨w.heap.size, 0, none⟩ = some (.int .i64 0) := (hc1 (w.heap.size) 0 (by first | omega | (simp <;> omega))).trans (by first | (simp; done) | (simp [*]; done) | (simp [*, World.cell?_alloc_at, World.cell?_alloc_past, World.cell?_alloc_lt, lt2, lt3, lt4]; done))
    have kc1_1_0 : w1.cell? ⟨w.heap.size, 1, none⟩ = some (.int .i64 0) := (hc1 (w.heap.size) 1 (by first | omega | (simp <;> omega))).trans (by first | (simp; done) | (simp [*]; done) | (simp [*, World.cell?_alloc_at, World.cell?_alloc_past, World.cell?_alloc_lt, lt2, lt3, lt4]; done))
    have kf1_0_0 : w1.frozen? ⟨w.heap.size, 0, none⟩ = false := (hf1 (w.heap.size) 0 (by first | omega | (simp <;> omega))).trans (by first | (simp; done) | (simp [*]; done) | (simp [*, World.frozen?_alloc_at, World.frozen?_alloc_past, lt2, lt3, lt4]; done))
    have kf1_1_0 : w1.frozen? ⟨w.heap.size, 1, none⟩ = false := (hf1 (w.heap.size) 1 (by first | omega | (simp <;> omega))).trans (by first | (simp; done) | (simp [*]; done) | (simp [*, World.frozen?_alloc_at, World.frozen?_alloc_past, lt2, lt3, lt4]; done))
    have R1 : Two w1 w.heap.size 0 0 := ⟨kc1_0_0, kc1_1_0, kf1_0_0, kf1_1_0, by omega⟩
    clear hc1 hf1 kc1_0_0 kc1_1_0 kf1_0_0 kf1_1_0
    go_wp2
    have hS : w.heap.size < w1.heap.size := by omega
    have hbS : b ≠ w1.heap.size := by omega
    go_loopw [5, 11] (fun u i wr => ∃ (m : Nat) (an ad : Int), m ≤ n ∧ u = .bool true ∧ i = .int .i64 m ∧ Two wr w1.heap.size an ad ∧ Two wr w.heap.size 0 0 ∧ Below w.heap.size w wr ∧ Hid (sumL xs = sumFrom ⟨an, ad, true⟩ (ros (xs.drop m)))) (fun _ i _ => n - (intOf i).toNat)
    case atStart => exact ⟨0, 0, 1, by omega, rfl, rfl, Two.new w1 0 1 34, R1.alloc _, B1.alloc (by omega) _, Lib.hid rfl⟩
    case round =>
      obtain ⟨m, an, ad, hm, rfl, rfl, hS1, hR1, hB, hG⟩ := hrel
      have hsz := hB.size
      have TS := Lib.hid hS1
      have TR := Lib.hid hR1
      obtain ⟨s0, s1, s2, s3, s4⟩ := hS1
      obtain ⟨r0, r1, r2, r3, r4⟩ := hR1
      by_cases hlt : m < n
      · have hkl : m < xs.length := by have := HN.out; omega
        obtain ⟨u0, u1, u2, u3, u4, u5⟩ := at_Split (w := wr) (xs := xs) (b := b) (o := o) (fun j hj => (hB.cell (p := ⟨b, o + j, none⟩) hb).trans (HC.out j (by have := HN.out; omega))) m hkl
        have hbw : b < wr.heap.size := by omega
        have hY := left_next hkl an ad
        generalize xs[m] = y at *
        obtain ⟨yu, yl, yp, yq, ys, yt⟩ := y
        simp only at u0 u1 u2 u3 u4 u5 hY
        have HY := Lib.hid (hG.out.trans hY)
        clear hY hG
        have HC2 := Lib.hid (fun W => iRatAdd an ad ys yt W)
        unfold roV at HC2
        generalize hr : addR an ad ys yt = r at *
        obtain ⟨rn, rd, rok⟩ := r
        go_wp2_with fail
        (with_reducible refine (HC2.out _).mono ?_)
        rintro e w2 ⟨rfl, b2⟩
        have hz2 := b2.size
        have B2 : Below w.heap.size w w2 := Below.trans (hB.alloc hB.size _) (b2.mono (by simp; omega))
        have TS2 := Lib.hid ((TS.out.alloc (.cells #[.int .i64 yu, .int .i64 yl, .int .i64 yp, .int .i64 yq, .int .i64 ys, .int .i64 yt] 40)).below b2 (by simp; omega))
        have TR2 := Lib.hid ((TR.out.alloc (.cells #[.int .i64 yu, .int .i64 yl, .int .i64 yp, .int .i64 yq, .int .i64 ys, .int .i64 yt] 40)).below b2 (by simp; omega))
        clear s0 s1 s2 s3 s4 r0 r1 r2 r3 r4 TS TR
        obtain ⟨s0, s1, s2, s3, s4⟩ := TS2.out
        obtain ⟨r0, r1, r2, r3, r4⟩ := TR2.out
        simp at hz2
        clear b2 u0 u1 u2 u3 u4 u5 HC2 hr hB
        cases rok
        · have HF := Lib.hid (HY.out.trans (if_neg (by simp)))
          clear HY
          go_wp2
          refine bodyPost_ret (v := .tuple #[.agg #[.int .i64 (0), .int .i64 (0)], .bool false]) (by simp [results, Tryd.results19, go_sem, *, lt2, lt3, lt4, lt5, lt6]) rfl ⟨by rw [HF.out]; rfl, (by repeat (first | (with_reducible refine Below.drew ?_) | (with_reducible refine below_drewN ?_ _) | (with_reducible refine Below.alloc ?_ ?_ _) | (with_reducible refine Below.setCell ?_ ?_ _) | (with_reducible assumption) | (with_reducible exact Below.refl _ _) | omega | (simp <;> omega)))⟩
        · have HF := Lib.hid (HY.out.trans (if_pos rfl))
          clear HY
          go_wp2
          go_roundw
          case rel => exact ⟨m + 1, rn, rd, by omega, rfl, by go_num, Two.put TS2.out rn rd, (Two.set (Two.set TR2.out (by first | (simp; done) | (simp; omega)) _) (by first | (simp; done) | (simp; omega)) _), (by repeat (first | (with_reducible refine Below.drew ?_) | (with_reducible refine below_drewN ?_ _) | (with_reducible refine Below.alloc ?_ ?_ _) | (with_reducible refine Below.setCell ?_ ?_ _) | (with_reducible assumption) | (with_reducible exact Below.refl _ _) | omega | (simp <;> omega))), HF⟩
          case measure => simp [intOf]; omega
      · have HF := Lib.hid (hG.out.trans (left_end (by have := HN.out; omega) an ad))
        clear hG
        go_wp2
        refine bodyPost_ret (v := .tuple #[.agg #[.int .i64 (an), .int .i64 (ad)], .bool true]) (by simp [results, Tryd.results19, go_sem, *, lt2, lt3, lt4, lt5, lt6]) rfl ⟨by rw [HF.out]; rfl, (by repeat (first | (with_reducible refine Below.drew ?_) | (with_reducible refine below_drewN ?_ _) | (with_reducible refine Below.alloc ?_ ?_ _) | (with_reducible refine Below.setCell ?_ ?_ _) | (with_reducible assumption) | (with_reducible exact Below.refl _ _) | omega | (simp <;> omega)))⟩

end Go.Proofs.YtpollgibgphipaaDoor.SplitSum
