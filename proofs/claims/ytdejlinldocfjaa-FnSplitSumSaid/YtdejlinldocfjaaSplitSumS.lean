/-
  Contracts of SplitSum, the reference's.
-/
import Derived.Test.YtdejlinldocfjaaSplitSum
import Derived.Test.YtdejlinldocfjaaSplitLaws
import Derived.Test.YtdejlinldocfjaaTwo
import Derived.Deep.DeepCutAuto
import Derived.Deep.Light
namespace Go.Proofs.Ytdejlinldocfjaa.SplitSum
open Go.RowKit Go.Proofs.Ytdejlinldocfjaa.RatP Go.Proofs.Ytdejlinldocfjaa.Rat Go.Proofs.Ytdejlinldocfjaa.Spin Go.Proofs.Ytdejlinldocfjaa.Row Go.Proofs.Ytdejlinldocfjaa.Later Go.Proofs.Ytdejlinldocfjaa.SplitPlain Go.Proofs.Ytdejlinldocfjaa.SplitDef Go.Proofs.Ytdejlinldocfjaa.SplitP Go.Proofs.Ytdejlinldocfjaa.RowsSplit Go.Proofs.Ytdejlinldocfjaa.Two
set_option linter.unusedVariables false
set_option linter.unusedSimpArgs false


set_option maxRecDepth 100000 in
set_option maxHeartbeats 4000000 in
theorem sSplitSum (xs : List Sp) (v : Value) (w : World) (hs : Sees w 6 v xs.length (xs.flatMap encSp)) (hx : xs.length ≤ 1048576) :
    Calls Try.prog 16 #[v] w (Gives (roV (sumL xs)) w) := by
  obtain ⟨n, hn⟩ : ∃ n, n = xs.length := ⟨_, rfl⟩
  have HN := Lib.hid hn
  rw [← hn] at hs hx
  clear hn
  rcases hs.2 with ⟨rfl, a, c, rfl⟩ | ⟨b, o, c, rfl, hnc, hcm, hb, hcell⟩
  · have HE := Lib.hid (List.eq_nil_of_length_eq_zero HN.out.symm)
    clear hs
    go_enter Try.func16, Try.ntmps16
    go_wp2
    go_loopw [5] (fun i wr => i = .int .i64 0 ∧ Two wr (w.heap.size + 1) 0 1 ∧ Two wr w.heap.size 0 0 ∧ Below w.heap.size w wr) (fun _ _ => 0)
    case atStart => exact ⟨rfl, (by have h := Two.new (w.alloc (.cells #[.int .i64 0, .int .i64 0] 31)) 0 1 31; simpa using h), ((Two.new w 0 0 31).alloc _), (((Below.refl w.heap.size w).alloc (Nat.le_refl _) _).alloc (by simp) _)⟩
    case round =>
      obtain ⟨rfl, hS1, hR1, hB⟩ := hrel
      have hsz := hB.size
      obtain ⟨s0, s1, s2, s3, s4⟩ := hS1
      obtain ⟨r0, r1, r2, r3, r4⟩ := hR1
      go_wp2
      refine bodyPost_ret (v := .tuple #[.agg #[.int .i64 (0), .int .i64 (1)], .bool true]) (by simp [results, Try.results16, go_sem, *, lt2, lt3, lt4, lt5, lt6]) rfl ⟨by rw [HE.out]; rfl, (by repeat (first | (with_reducible refine Below.drew ?_) | (with_reducible refine below_drewN ?_ _) | (with_reducible refine Below.alloc ?_ ?_ _) | (with_reducible refine Below.setCell ?_ ?_ _) | (with_reducible assumption) | (with_reducible exact Below.refl _ _) | omega | (simp <;> omega)))⟩
  · have HC := Lib.hid hcell
    unfold maxLen at hcm
    clear hs hcell
    go_enter Try.func16, Try.ntmps16
    go_wp2
    have hS : w.heap.size < w.heap.size + 1 := by omega
    have hbS : b ≠ (w.heap.size + 1) := by omega
    go_loopw [5] (fun i wr => ∃ (m : Nat) (an ad : Int), m ≤ n ∧ i = .int .i64 m ∧ Two wr (w.heap.size + 1) an ad ∧ Two wr w.heap.size 0 0 ∧ Below w.heap.size w wr ∧ Hid (sumL xs = sumFrom ⟨an, ad, true⟩ (ros (xs.drop m)))) (fun i _ => n - (intOf i).toNat)
    case atStart => exact ⟨0, 0, 1, by omega, rfl, (by have h := Two.new (w.alloc (.cells #[.int .i64 0, .int .i64 0] 31)) 0 1 31; simpa using h), ((Two.new w 0 0 31).alloc _), (((Below.refl w.heap.size w).alloc (Nat.le_refl _) _).alloc (by simp) _), Lib.hid rfl⟩
    case round =>
      obtain ⟨m, an, ad, hm, rfl, hS1, hR1, hB, hG⟩ := hrel
      have hsz := hB.size
      have TS := Lib.hid hS1
      have TR := Lib.hid hR1
      obtain ⟨s0, s1, s2, s3, s4⟩ := hS1
      obtain ⟨r0, r1, r2, r3, r4⟩ := hR1
      by_cases hlt : m < n
      · have hkl : m < xs.length := by have := HN.out; omega
        obtain ⟨u0, u1, u2, u3, u4, u5⟩ := at_Split (w := wr) (xs := xs) (b := b) (o := o) (fun j hj => (hB.cell (p := ⟨b, o + j, none⟩) hb).trans (HC.out j (by have := HN.out; omega))) m hkl
        have hbw : b < wr.heap.size := by omega
        have hY := left_next hkl an ad
        generalize xs[m] = y at *
        obtain ⟨yu, yl, yp, yq, ys, yt⟩ := y
        simp only at u0 u1 u2 u3 u4 u5 hY
        have HY := Lib.hid (hG.out.trans hY)
        clear hY hG
        have HC2 := Lib.hid (fun W => sRatAdd an ad ys yt W)
        unfold roV at HC2
        generalize hr : addR an ad ys yt = r at *
        obtain ⟨rn, rd, rok⟩ := r
        have hne : b ≠ w.heap.size + 1 := hbS
        go_upto_region 5 with fail
        go_cut [6, 7] (fun s6 s7 wx => ∃ T : Nat, w.heap.size + 1 < T ∧ s6 = .pointer (some ⟨T, 0, none⟩) ∧ s7 = .bool rok ∧ Two wx T rn rd ∧ Two wx (w.heap.size + 1) an ad ∧ Two wx w.heap.size 0 0 ∧ Below w.heap.size w wx)
        case first =>
         go_region_held3 (fun w' => w'.cell? ⟨w.heap.size + 1, 0, none⟩ = some (.int .i64 an) ∧ w'.cell? ⟨w.heap.size + 1, 1, none⟩ = some (.int .i64 ad) ∧ w'.cell? ⟨b, o + m * 6 + 4, none⟩ = some (.int .i64 ys) ∧ w'.cell? ⟨b, o + m * 6 + 5, none⟩ = some (.int .i64 yt))
          (first | exact ⟨s0, s1, u4, u5⟩ | (refine ⟨?_, ?_, ?_, ?_⟩ <;> (rw [World.cell?_setCell_far _ _ _ _ (by simp; omega), World.cell?_setCell_far _ _ _ _ (by simp; omega)]; assumption)) | go_keep)
          (first | ((with_reducible refine (HC2.out _).mono ?_); rintro e w2 ⟨rfl, b2'⟩; have b2 : Below wr.heap.size wr.drew w2 := b2'; clear b2'; have hz2 := b2.size; have B2 : Below w.heap.size w w2 := (hB.drew).trans (b2.mono (show w.heap.size ≤ wr.heap.size from hsz)); have u4 := (b2.cell (p := ⟨b, o + m * 6 + 4, none⟩) hbw).trans u4; have u5 := (b2.cell (p := ⟨b, o + m * 6 + 5, none⟩) hbw).trans u5; have TS2 := Lib.hid (TS.out.drew.below b2 s4); have TR2 := Lib.hid (TR.out.drew.below b2 r4); obtain ⟨s0, s1, s2, s3, s4⟩ := TS2.out; obtain ⟨r0, r1, r2, r3, r4⟩ := TR2.out; clear b2)
                 | ((with_reducible refine (HC2.out _).mono ?_); rintro e w2 ⟨rfl, b2'⟩; have b2 : Below (wr.alloc (.cells #[.int .i64 0, .int .i64 0] 31)).heap.size (wr.alloc (.cells #[.int .i64 0, .int .i64 0] 31)).drew w2 := b2'; clear b2'; have hz2 := b2.size; have B2 : Below w.heap.size w w2 := ((hB.alloc hsz _).drew).trans (b2.mono (by simp; omega)); have u4 := (b2.cell (p := ⟨b, o + m * 6 + 4, none⟩) (by simp; omega)).trans ((World.cell?_alloc_lt _ _ _ hbw).trans u4); have u5 := (b2.cell (p := ⟨b, o + m * 6 + 5, none⟩) (by simp; omega)).trans ((World.cell?_alloc_lt _ _ _ hbw).trans u5); have TS2 := Lib.hid ((TS.out.alloc _).drew.below b2 (by simp; omega)); have TR2 := Lib.hid ((TR.out.alloc _).drew.below b2 (by simp; omega)); have TT2 := Lib.hid ((Two.new wr 0 0 31).drew.below b2 (by simp)); obtain ⟨s0, s1, s2, s3, s4⟩ := TS2.out; obtain ⟨r0, r1, r2, r3, r4⟩ := TR2.out; obtain ⟨t0, t1, t2, t3, t4⟩ := TT2.out; clear b2))
         · go_wp2_with fail
           clear s0 s1 s2 s3 s4 r0 r1 r2 r3 r4 u0 u1 u2 u3 u4 u5
           go_meet
           exact ⟨_, TS2.out.2.2.2.2, rfl, rfl, Two.new _ _ _ _, TS2.out.alloc _, TR2.out.alloc _, B2.alloc B2.size _⟩
         · go_wp2_with fail
           clear s0 s1 s2 s3 s4 r0 r1 r2 r3 r4 u0 u1 u2 u3 u4 u5 t0 t1 t2 t3 t4
           go_meet
           exact ⟨_, TS.out.2.2.2.2, rfl, rfl, Two.put TT2.out _ _, (TS2.out.set (Nat.ne_of_gt TS.out.2.2.2.2) _).set (Nat.ne_of_gt TS.out.2.2.2.2) _, (TR2.out.set (Nat.ne_of_gt TR.out.2.2.2.2) _).set (Nat.ne_of_gt TR.out.2.2.2.2) _, (B2.setCell (p := ⟨wr.heap.size, 0, none⟩) hsz _).setCell (p := ⟨wr.heap.size, 1, none⟩) hsz _⟩
        case rest =>
          clear TS TR s0 s1 s2 s3 s4 r0 r1 r2 r3 r4 u0 u1 u2 u3 u4 u5 HC2
          obtain ⟨T, hT, rfl, rfl, TT2, TS2', TR2', B2⟩ := hcut
          have TS2 := Lib.hid TS2'
          have TR2 := Lib.hid TR2'
          obtain ⟨s0, s1, s2, s3, s4⟩ := TS2'
          obtain ⟨r0, r1, r2, r3, r4⟩ := TR2'
          obtain ⟨t0, t1, t2, t3, t4⟩ := TT2
          clear hB
          cases rok
          · have HF := Lib.hid (HY.out.trans (if_neg (by simp)))
            clear HY
            go_wp2
            refine bodyPost_ret (v := .tuple #[.agg #[.int .i64 (0), .int .i64 (0)], .bool false]) (by simp [results, Try.results16, go_sem, *, lt2, lt3, lt4, lt5, lt6]) rfl ⟨by rw [HF.out]; rfl, (by repeat (first | (with_reducible refine Below.drew ?_) | (with_reducible refine below_drewN ?_ _) | (with_reducible refine Below.alloc ?_ ?_ _) | (with_reducible refine Below.setCell ?_ ?_ _) | (with_reducible assumption) | (with_reducible exact Below.refl _ _) | omega | (simp <;> omega)))⟩
          · have HF := Lib.hid (HY.out.trans (if_pos rfl))
            clear HY
            go_wp2
            go_roundw
            case rel => exact ⟨m + 1, rn, rd, by omega, by go_num, Two.put TS2.out rn rd, (Two.set (Two.set TR2.out (by first | (simp; done) | (simp; omega)) _) (by first | (simp; done) | (simp; omega)) _), (by repeat (first | (with_reducible refine Below.drew ?_) | (with_reducible refine below_drewN ?_ _) | (with_reducible refine Below.alloc ?_ ?_ _) | (with_reducible refine Below.setCell ?_ ?_ _) | (with_reducible assumption) | (with_reducible exact Below.refl _ _) | omega | (simp <;> omega))), HF⟩
            case measure => simp [intOf]; omega
      · have HF := Lib.hid (hG.out.trans (left_end (by have := HN.out; omega) an ad))
        clear hG
        go_wp2
        refine bodyPost_ret (v := .tuple #[.agg #[.int .i64 (an), .int .i64 (ad)], .bool true]) (by simp [results, Try.results16, go_sem, *, lt2, lt3, lt4, lt5, lt6]) rfl ⟨by rw [HF.out]; rfl, (by repeat (first | (with_reducible refine Below.drew ?_) | (with_reducible refine below_drewN ?_ _) | (with_reducible refine Below.alloc ?_ ?_ _) | (with_reducible refine Below.setCell ?_ ?_ _) | (with_reducible assumption) | (with_reducible exact Below.refl _ _) | omega | (simp <;> omega)))⟩

end Go.Proofs.Ytdejlinldocfjaa.SplitSum
