/-
  The walk of the law FnSplitSpan.
-/
import Derived.Test.YtdejlinldocfjaaSplitLaws
import Derived.Test.YtdejlinldocfjaaDrawSpl
import Derived.Test.YtdejlinldocfjaaSplitSpan
import Derived.Test.YtdejlinldocfjaaSplitSpanS
import Derived.Deep.DeepCutAuto
namespace Go.Proofs.Ytdejlinldocfjaa.WFnSplitSpan
open Go.Proofs.Ytdejlinldocfjaa.RowsSplit Go.RowKit Go.Proofs.Ytdejlinldocfjaa.RatP Go.Proofs.Ytdejlinldocfjaa.Rat Go.Proofs.Ytdejlinldocfjaa.Spin Go.Proofs.Ytdejlinldocfjaa.Row Go.Proofs.Ytdejlinldocfjaa.Later Go.Proofs.Ytdejlinldocfjaa.SplitPlain Go.Proofs.Ytdejlinldocfjaa.SplitDef Go.Proofs.Ytdejlinldocfjaa.SplitP Go.Proofs.Ytdejlinldocfjaa.SplitLaws Go.Proofs.Ytdejlinldocfjaa.Two Go.Proofs.Ytdejlinldocfjaa.Rd Go.Proofs.Ytdejlinldocfjaa.DrawSpl Go.Proofs.Ytdejlinldocfjaa.SplitSpan
set_option linter.unusedVariables false
set_option linter.unusedSimpArgs false

theorem span_nil' : spanL [] = bad := rfl
theorem sub_ok {a b c d : Int} (h : (subR a b c d).ok = true) : -1000000000 ≤ c ∧ c ≤ 1000000000 := by
  unfold subR at h
  split at h
  · rename_i g
    exact (ratOk_true.1 g.2).2.1
  · cases h
set_option maxRecDepth 100000 in
set_option maxHeartbeats 8000000 in
theorem fnSplitSpan (a : Option Addr) (n c : Nat) (zs : List Int) (w0 : World) (h : IsRow .u8 w0 a n c zs) :
    Calls Try.prog 8 #[.slice a n c] w0 (Yes w0) := by
  have HO := Lib.hid (drawSplitSpan a n c zs w0 h)
  clear h
  by_cases hn : 1048576 < n
  · go_enter Try.func8, Try.ntmps8
    go_wp2_with fail
    go_ret
    exact ⟨rfl, Below.refl _ _⟩
  have hd1 : decide ((1048576 : Int) < (n : Int)) = false := decide_eq_false (by omega)
  go_enter Try.func8, Try.ntmps8
  go_wp2_with fail
  refine HO.out.mono ?_
  rintro e w ⟨v, z, hD, rfl, O0, B0⟩
  have hx : z.length ≤ 1048576 := by have := hD.1; omega
  have HI := Lib.hid (fun W (h : Below w.heap.size w W) => iSplitSpan z _ W ((Sees.of_own O0).below h (Nat.le_refl _)) hx)
  have HS := Lib.hid (fun W (h : Below w.heap.size w W) => sSplitSpan z _ W ((Sees.of_own O0).below h (Nat.le_refl _)) hx)
  unfold roV at HI HS
  have hD2 : (spanL z).ok = true → z ≠ [] ∧ 0 ≤ (spanL z).n ∧ ∀ (i k : Nat) (hi : i < z.length) (hk : k < z.length), ∃ r : Ro, r.ok = true ∧ subR z[i].p z[i].q z[k].p z[k].q = r ∧ lessR (spanL z).n (spanL z).d r.n r.d = false := by
    intro hok
    have hz : z ≠ [] := by rintro rfl; cases hok
    rcases hD.2 with ⟨_, h1⟩ | ⟨_, h1⟩
    · have h2 := h1.law hz
      exact ⟨hz, h2.2.1, h2.2.2⟩
    · rw [h1] at hok; cases hok
  have hS := Sees.of_own O0
  clear hD O0
  generalize spanL z = r at *
  obtain ⟨rn, rd, rok⟩ := r
  have b0 := Below.refl w.heap.size w
  go_wp2_with fail
  (with_reducible refine (HI.out _ b0).mono ?_)
  rintro e w1 ⟨rfl, b1⟩
  have B1 := (b0).trans (b1.mono (b0).size)
  clear b1
  have TA1 := Two.new w1 rn rd 31
  go_wp2_with fail
  (with_reducible refine (HS.out _ (B1.alloc B1.size _)).mono ?_)
  rintro e w2 ⟨rfl, b2⟩
  have B2 := ((B1.alloc B1.size (.cells #[.int .i64 rn, .int .i64 rd] 31))).trans (b2.mono ((B1.alloc B1.size (.cells #[.int .i64 rn, .int .i64 rd] 31))).size)
  have TA2 := (TA1).below b2 (TA1).2.2.2.2
  clear b2
  have TAH2 := Lib.hid TA2
  obtain ⟨TAx2, TAy2, _, _, TAl2⟩ := TA2
  cases rok
  · clear hD2 hS
    go_wp2
    go_ret
    exact ⟨rfl, B0.trans ((B2.alloc B2.size _).mono B0.size)⟩
  · obtain ⟨hz, hrn, hlaw⟩ := hD2 rfl
    have hrn' : decide ((0 : Int) ≤ rn) = true := decide_eq_true hrn
    have hm0 : 0 < z.length := List.length_pos_iff.2 hz
    rcases hS.2 with ⟨h0, _⟩ | ⟨b, o, c', rfl, hnc, hcm, hb, hcell⟩
    · omega
    unfold maxLen at hcm
    have HC := Lib.hid hcell
    have HLAW := Lib.hid hlaw
    obtain ⟨m, hm⟩ : ∃ m, m = z.length := ⟨_, rfl⟩
    have HM := Lib.hid hm
    rw [← hm] at hnc hm0 ⊢
    have hm2 : m ≤ 1048576 := by omega
    obtain ⟨wB, hwB⟩ : ∃ wB, wB = w2.alloc (.cells #[.int .i64 rn, .int .i64 rd] 31) := ⟨_, rfl⟩
    have BB : Below w.heap.size w wB := by rw [hwB]; exact B2.alloc B2.size _
    have TB : Two wB w1.heap.size rn rd := by rw [hwB]; exact TAH2.out.alloc _
    have hbB : b < wB.heap.size := Nat.lt_of_lt_of_le hb BB.size
    have HTB := Lib.hid TB
    have HBB := Lib.hid BB
    clear hm hx hlaw hcell hS hD2 hz TB BB TAH2 HI HS
    go_wp2
    simp only [← hwB]
    clear hwB
    go_loopw [8] (fun i wr => ∃ q : Nat, q ≤ m ∧ i = .int .i64 q ∧ Below wB.heap.size wB wr) (fun i _ => m - (intOf i).toNat)
    case atStart => exact ⟨0, by omega, rfl, Below.refl _ _⟩
    case round =>
      obtain ⟨i, hi, rfl, hB⟩ := hrel
      have HBo := Lib.hid hB
      obtain ⟨wo, rfl⟩ : ∃ wo : World, wo = wr := ⟨_, rfl⟩
      clear hB
      by_cases hlt : i < m
      · have hi1 : (i : Int) < (m : Int) := by omega
        go_wp2
        go_loopw [9] (fun i wr => ∃ q : Nat, q ≤ m ∧ i = .int .i64 q ∧ Below wB.heap.size wB wr) (fun i _ => m - (intOf i).toNat)
        case atStart => exact ⟨0, by omega, rfl, HBo.out⟩
        case round =>
          obtain ⟨k, hk, rfl, hB⟩ := hrel
          by_cases hlk : k < m
          · have hk1 : (k : Int) < (m : Int) := by omega
            have hil : i < z.length := by have := HM.out; omega
            have hkl : k < z.length := by have := HM.out; omega
            have hBw := HBB.out.trans (hB.mono HBB.out.size)
            obtain ⟨_, _, e1, e2, _, _⟩ := at_Split (w := wr) (xs := z) (b := b) (o := o) (fun j hj => (hBw.cell (p := ⟨b, o + j, none⟩) hb).trans (HC.out j (by have := HM.out; omega))) i hil
            obtain ⟨_, _, e3, e4, _, _⟩ := at_Split (w := wr) (xs := z) (b := b) (o := o) (fun j hj => (hBw.cell (p := ⟨b, o + j, none⟩) hb).trans (HC.out j (by have := HM.out; omega))) k hkl
            have hbw : b < wr.heap.size := Nat.lt_of_lt_of_le hbB hB.size
            obtain ⟨r, hr1, hr2, hr3⟩ := HLAW.out i k hil hkl
            generalize z[i] = X at *
            generalize z[k] = Y at *
            obtain ⟨xu, xl, xp, xq, xs, xt⟩ := X
            obtain ⟨yu, yl, yp, yq, ys, yt⟩ := Y
            simp only at e1 e2 e3 e4 hr2 hr3
            have hbd : -1000000000 ≤ yp ∧ yp ≤ 1000000000 := sub_ok (a := xp) (b := xq) (c := yp) (d := yq) (by rw [hr2]; exact hr1)
            have hSUB := fun W => iRatSub xp xq yp yq W (by omega) (by omega)
            rw [hr2] at hSUB
            unfold roV at hSUB
            obtain ⟨dn, dd, dok⟩ := r
            have hr1' : dok = true := hr1
            subst hr1'
            have hLESS := fun W => iRatLess rn rd dn dd W
            rw [hr3] at hLESS
            have HSUB := Lib.hid hSUB
            have HLESS := Lib.hid hLESS
            have HT := Lib.hid (HTB.out.below hB HTB.out.2.2.2.2)
            have HBr := Lib.hid hB
            clear hSUB hLESS hr1 hr2 hr3 hbd hB hBw
            go_upto_region 14 with fail
            go_cut [10, 11] (fun s10 s11 wx => ∃ T : Nat, wr.heap.size ≤ T ∧ s10 = .pointer (some ⟨T, 0, none⟩) ∧ s11 = .bool true ∧ Two wx T dn dd ∧ Below wr.heap.size wr wx)
            case first =>
              clear HLESS HT HBr HBo HTB HBB HC HM HLAW hil hkl hn hnc hcm
              have Z0e1 := Lib.hid e1
              have Z0e2 := Lib.hid e2
              have Z0e3 := Lib.hid e3
              have Z0e4 := Lib.hid e4
              have ZDe1 := Lib.hid (show wr.drew.cell? ⟨b, o + i * 6 + 2, none⟩ = some (.int .i64 (xp)) from e1)
              have ZDe2 := Lib.hid (show wr.drew.cell? ⟨b, o + i * 6 + 3, none⟩ = some (.int .i64 (xq)) from e2)
              have ZDe3 := Lib.hid (show wr.drew.cell? ⟨b, o + k * 6 + 2, none⟩ = some (.int .i64 (yp)) from e3)
              have ZDe4 := Lib.hid (show wr.drew.cell? ⟨b, o + k * 6 + 3, none⟩ = some (.int .i64 (yq)) from e4)
              have ZAe1 := Lib.hid (show (wr.alloc (.cells #[.int .i64 0, .int .i64 0] 31)).cell? ⟨b, o + i * 6 + 2, none⟩ = some (.int .i64 (xp)) from (World.cell?_alloc_lt _ _ _ hbw).trans e1)
              have ZAe2 := Lib.hid (show (wr.alloc (.cells #[.int .i64 0, .int .i64 0] 31)).cell? ⟨b, o + i * 6 + 3, none⟩ = some (.int .i64 (xq)) from (World.cell?_alloc_lt _ _ _ hbw).trans e2)
              have ZAe3 := Lib.hid (show (wr.alloc (.cells #[.int .i64 0, .int .i64 0] 31)).cell? ⟨b, o + k * 6 + 2, none⟩ = some (.int .i64 (yp)) from (World.cell?_alloc_lt _ _ _ hbw).trans e3)
              have ZAe4 := Lib.hid (show (wr.alloc (.cells #[.int .i64 0, .int .i64 0] 31)).cell? ⟨b, o + k * 6 + 3, none⟩ = some (.int .i64 (yq)) from (World.cell?_alloc_lt _ _ _ hbw).trans e4)
              have ZBe1 := Lib.hid (show (wr.alloc (.cells #[.int .i64 0, .int .i64 0] 31)).drew.cell? ⟨b, o + i * 6 + 2, none⟩ = some (.int .i64 (xp)) from (World.cell?_alloc_lt _ _ _ hbw).trans e1)
              have ZBe2 := Lib.hid (show (wr.alloc (.cells #[.int .i64 0, .int .i64 0] 31)).drew.cell? ⟨b, o + i * 6 + 3, none⟩ = some (.int .i64 (xq)) from (World.cell?_alloc_lt _ _ _ hbw).trans e2)
              have ZBe3 := Lib.hid (show (wr.alloc (.cells #[.int .i64 0, .int .i64 0] 31)).drew.cell? ⟨b, o + k * 6 + 2, none⟩ = some (.int .i64 (yp)) from (World.cell?_alloc_lt _ _ _ hbw).trans e3)
              have ZBe4 := Lib.hid (show (wr.alloc (.cells #[.int .i64 0, .int .i64 0] 31)).drew.cell? ⟨b, o + k * 6 + 3, none⟩ = some (.int .i64 (yq)) from (World.cell?_alloc_lt _ _ _ hbw).trans e4)
              have HDA : wr.heap.size ≤ wr.drew.heap.size := Nat.le_refl _
              have HDB : wr.heap.size ≤ (wr.alloc (.cells #[.int .i64 0, .int .i64 0] 31)).drew.heap.size := by show wr.heap.size ≤ (wr.alloc (.cells #[.int .i64 0, .int .i64 0] 31)).heap.size; simp
              have HDC : (wr.alloc (.cells #[.int .i64 0, .int .i64 0] 31)).heap.size ≤ (wr.alloc (.cells #[.int .i64 0, .int .i64 0] 31)).drew.heap.size := Nat.le_refl _
              go_region_held3 (fun w' => w'.cell? ⟨b, o + i * 6 + 2, none⟩ = some (.int .i64 (xp)) ∧ w'.cell? ⟨b, o + i * 6 + 3, none⟩ = some (.int .i64 (xq)) ∧ w'.cell? ⟨b, o + k * 6 + 2, none⟩ = some (.int .i64 (yp)) ∧ w'.cell? ⟨b, o + k * 6 + 3, none⟩ = some (.int .i64 (yq)))
                (first | with_reducible exact ⟨e1, e2, e3, e4⟩ | with_reducible exact ⟨ZDe1.out, ZDe2.out, ZDe3.out, ZDe4.out⟩ | with_reducible exact ⟨ZAe1.out, ZAe2.out, ZAe3.out, ZAe4.out⟩ | with_reducible exact ⟨ZBe1.out, ZBe2.out, ZBe3.out, ZBe4.out⟩ | with_reducible exact ⟨(World.cell?_alloc_lt _ _ _ v_hbw).trans e1, (World.cell?_alloc_lt _ _ _ v_hbw).trans e2, (World.cell?_alloc_lt _ _ _ v_hbw).trans e3, (World.cell?_alloc_lt _ _ _ v_hbw).trans e4⟩ | (refine ⟨?_, ?_, ?_, ?_⟩ <;> (rw [World.cell?_setCell_far _ _ _ _ (by first | exact Nat.ne_of_gt hbw), World.cell?_setCell_far _ _ _ _ (by first | exact Nat.ne_of_gt hbw)]; with_reducible assumption)))
                (first | ((with_reducible refine (HSUB.out _).mono ?_); rintro e w2x ⟨rfl, b2'⟩; have BX2 : Below wr.heap.size wr w2x := (by with_reducible exact Below.trans (Below.drew (Below.refl wr.heap.size wr)) (Below.mono b2' HDA)); clear b2'; have e1 := (BX2.cell (p := ⟨b, o + i * 6 + 2, none⟩) hbw).trans Z0e1.out; have e2 := (BX2.cell (p := ⟨b, o + i * 6 + 3, none⟩) hbw).trans Z0e2.out; have e3 := (BX2.cell (p := ⟨b, o + k * 6 + 2, none⟩) hbw).trans Z0e3.out; have e4 := (BX2.cell (p := ⟨b, o + k * 6 + 3, none⟩) hbw).trans Z0e4.out; have v_hbw := Nat.lt_of_lt_of_le hbw BX2.size; skip)
                       | ((with_reducible refine (HSUB.out _).mono ?_); rintro e w2x ⟨rfl, b2'⟩; have BX2 : Below wr.heap.size wr w2x := (by with_reducible exact Below.trans (Below.drew (Below.alloc (Below.refl wr.heap.size wr) (Nat.le_refl _) (.cells #[.int .i64 0, .int .i64 0] 31))) (Below.mono b2' HDB)); have TX2 := Lib.hid ((Two.new wr 0 0 31).below (Below.trans (Below.drew (Below.refl (wr.alloc (.cells #[.int .i64 0, .int .i64 0] 31)).heap.size (wr.alloc (.cells #[.int .i64 0, .int .i64 0] 31)))) (Below.mono b2' HDC)) (Two.new wr 0 0 31).2.2.2.2); clear b2'; obtain ⟨tc0, tc1, tf0, tf1, _⟩ := TX2.out; have e1 := (BX2.cell (p := ⟨b, o + i * 6 + 2, none⟩) hbw).trans Z0e1.out; have e2 := (BX2.cell (p := ⟨b, o + i * 6 + 3, none⟩) hbw).trans Z0e2.out; have e3 := (BX2.cell (p := ⟨b, o + k * 6 + 2, none⟩) hbw).trans Z0e3.out; have e4 := (BX2.cell (p := ⟨b, o + k * 6 + 3, none⟩) hbw).trans Z0e4.out; skip))
              · go_wp2_with fail
                go_meet
                exact ⟨_, BX2.size, rfl, rfl, Two.new _ _ _ _, BX2.alloc BX2.size _⟩
              · go_wp2_with fail
                go_meet
                exact ⟨_, Nat.le_refl _, rfl, rfl, Two.put TX2.out _ _, ((BX2.setCell (p := ⟨wr.heap.size, 0, none⟩) (Nat.le_refl _) _).setCell (p := ⟨wr.heap.size, 1, none⟩) (Nat.le_refl _) _)⟩
            case rest =>
              obtain ⟨T, hT, rfl, rfl, TT, B6⟩ := hcut
              obtain ⟨w6, rfl⟩ : ∃ x : World, x = wc := ⟨_, rfl⟩
              have TT6 := HT.out.below B6 HT.out.2.2.2.2
              have B7 := HBr.out.trans (B6.mono HBr.out.size)
              clear e1 e2 e3 e4 HBr HT B6
              obtain ⟨t0, t1, _, _, _⟩ := TT
              obtain ⟨r0, r1, _, _, _⟩ := TT6
              go_wp2_with fail
              (with_reducible refine (HLESS.out _).mono ?_)
              rintro e w8 ⟨rfl, b8⟩
              have B8 := B7.trans (b8.mono B7.size)
              clear b8
              go_wp2
              go_roundw
              case rel => first | exact ⟨k + 1, by omega, by go_num, B8⟩ | ((repeat apply Exists.intro); exact ⟨⟨k + 1, by omega, by go_num, B8⟩, rfl⟩)
              case measure => simp [intOf]; omega
          · obtain rfl : k = m := by omega
            go_wp2
            go_roundw
            case rel => exact ⟨i + 1, by omega, by go_num, hB⟩
            case measure => simp [intOf]; omega
      · obtain rfl : i = m := by omega
        have TT := HTB.out.below HBo.out HTB.out.2.2.2.2
        have BF := HBB.out.trans (HBo.out.mono HBB.out.size)
        obtain ⟨r0, r1, _, _, _⟩ := TT
        go_wp2
        go_ret
        exact ⟨rfl, B0.trans (BF.mono B0.size)⟩
end Go.Proofs.Ytdejlinldocfjaa.WFnSplitSpan
