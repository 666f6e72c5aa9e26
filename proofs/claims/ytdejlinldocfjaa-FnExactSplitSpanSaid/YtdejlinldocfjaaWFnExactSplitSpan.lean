/-
  The walk of the law FnExactSplitSpan.
-/
import Derived.Test.YtdejlinldocfjaaSplitLaws
import Derived.Test.YtdejlinldocfjaaSplitSpan
import Derived.Test.YtdejlinldocfjaaSplitSpanS
namespace Go.Proofs.Ytdejlinldocfjaa.WFnExactSplitSpan
open Go.RowKit Go.Proofs.Ytdejlinldocfjaa.RatP Go.Proofs.Ytdejlinldocfjaa.Rat Go.Proofs.Ytdejlinldocfjaa.Spin Go.Proofs.Ytdejlinldocfjaa.Row Go.Proofs.Ytdejlinldocfjaa.Later Go.Proofs.Ytdejlinldocfjaa.SplitPlain Go.Proofs.Ytdejlinldocfjaa.SplitDef Go.Proofs.Ytdejlinldocfjaa.SplitP Go.Proofs.Ytdejlinldocfjaa.SplitLaws Go.Proofs.Ytdejlinldocfjaa.Two Go.Proofs.Ytdejlinldocfjaa.SplitSpan
set_option linter.unusedVariables false
set_option linter.unusedSimpArgs false

theorem eqRat (n d : Int) (w : World) : Calls Try.prog 18 #[.agg #[.int .i64 n, .int .i64 d], .agg #[.int .i64 n, .int .i64 d]] w (Gives (.bool true) w) := by
  have h1 : (n != n) = false := by simp
  have h2 : (d != d) = false := by simp
  go_enter Try.func18, Try.ntmps18
  go_wp2
  go_ret
  exact ⟨rfl, (by repeat (first | (with_reducible refine Below.drew ?_) | (with_reducible refine below_drewN ?_ _) | (with_reducible refine Below.alloc ?_ ?_ _) | (with_reducible refine Below.setCell ?_ ?_ _) | (with_reducible assumption) | (with_reducible exact Below.refl _ _) | omega | (simp <;> omega)))⟩

set_option maxRecDepth 100000 in
set_option maxHeartbeats 2000000 in
theorem fnExactSplitSpan (a : Option Addr) (len cap : Nat) (z : List Sp) (w : World) (h : Sees w 6 (.slice a len cap) z.length (z.flatMap encSp) ∧ len = z.length) :
    Calls Try.prog 5 #[.slice a len cap] w (Yes w) := by
  obtain ⟨S, hlen⟩ := h
  have hm := sees_len S
  obtain ⟨v, hv⟩ : ∃ v, v = Value.slice a len cap := ⟨_, rfl⟩
  have HSZ := Lib.hid (RowsSplit.szSplitS a len cap w (by omega))
  rw [← hv] at S HSZ ⊢
  by_cases hb : len ≤ 1048576
  · have hx : z.length ≤ 1048576 := by omega
    have e : RowsSplit.szv len = 1048576 - (len : Int) := by unfold RowsSplit.szv; rw [if_pos hb]
    have hb' : (len : Int) ≤ 1048576 := by omega
    have HX := Lib.hid hx
    have HTO := Lib.hid (fun W (h : Below w.heap.size w W) => RowsSplit.toSplitS z v W (S.below h (Nat.le_refl _)) hx)
    clear hv hlen S
    have B0 := Below.refl w.heap.size w
    obtain ⟨r, hr⟩ : ∃ r, r = spanL z := ⟨_, rfl⟩
    obtain ⟨rn, rd, rok⟩ := r
    have HI := Lib.hid (fun v W (h : Sees W 6 v z.length (z.flatMap encSp)) => iSplitSpan z v W h hx)
    have HS := Lib.hid (fun v W (h : Sees W 6 v z.length (z.flatMap encSp)) => sSplitSpan z v W h hx)
    unfold roV at HI HS
    rw [← hr] at HI HS
    clear hr
    go_enter Try.func5, Try.ntmps5
    go_wp2_with fail
    (with_reducible refine HSZ.out.mono ?_)
    rintro e w' ⟨rfl, rfl⟩
    rw [e]
    clear e
    go_wp2_with fail
    (with_reducible refine (HTO.out _ B0).mono ?_)
    rintro e w1 ⟨v1, rfl, O1, b1⟩
    have B1 := B0.trans (b1.mono B0.size)
    have hz1 := b1.size
    clear b1 B0
    go_wp2_with fail
    (with_reducible refine (HS.out _ _ (Sees.of_own O1)).mono ?_)
    rintro e w2 ⟨rfl, b2⟩
    have B2 := B1.trans (b2.mono B1.size)
    have hz2 := b2.size
    clear b2 B1
    clear O1
    have A2 := B2.alloc B2.size (.cells #[.int .i64 rn, .int .i64 rd] 31)
    have TA2 := Two.new w2 rn rd 31
    have hA : w2.heap.size < (w2.alloc (.cells #[.int .i64 rn, .int .i64 rd] 31)).heap.size := by simp
    go_wp2_with fail
    (with_reducible refine (HTO.out _ A2).mono ?_)
    rintro e w3 ⟨v3, rfl, O3, b3⟩
    have B3 := A2.trans (b3.mono A2.size)
    have TA3 := TA2.below b3 hA
    clear b3 TA2 hA A2 B2
    have HTA3 := Lib.hid TA3
    go_wp2_with fail
    (with_reducible refine (HI.out _ _ (Sees.of_own O3)).mono ?_)
    rintro e w4 ⟨rfl, b4⟩
    have B4 := B3.trans (b4.mono B3.size)
    replace O3 := own_below O3 b4 (Nat.le_refl _)
    have TA4 := Lib.hid (HTA3.out.below b4 HTA3.out.2.2.2.2)
    clear b4 B3 HTA3
    have hlt : w2.heap.size < w3.heap.size := TA3.2.2.2.2
    have A4 := B4.alloc B4.size (.cells #[.int .i64 rn, .int .i64 rd] 31)
    have O4 := own_below O3 ((Below.refl w4.heap.size w4).alloc (Nat.le_refl _) (.cells #[.int .i64 rn, .int .i64 rd] 31)) (Nat.le_refl _)
    have x0 : w4.cell? ⟨w2.heap.size, 0, none⟩ = some (.int .i64 rn) := TA4.out.1
    have x1 : w4.cell? ⟨w2.heap.size, 1, none⟩ = some (.int .i64 rd) := TA4.out.2.1
    have hlt4 : w2.heap.size < w4.heap.size := TA4.out.2.2.2.2
    clear O3 TA3
    go_wp2_with fail
    (with_reducible refine (eqRat rn rd _).mono ?_)
    rintro e w5 ⟨rfl, b5⟩
    have B5 := A4.trans (b5.mono A4.size)
    have O5 := own_below O4 b5 (Nat.le_refl _)
    clear O4 A4 b5 x0 x1 B4
    go_wp2_with fail
    (with_reducible refine (HTO.out _ B5).mono ?_)
    rintro e w6 ⟨v6, rfl, O6, b6⟩
    have B6 := B5.trans (b6.mono B5.size)
    replace O5 := own_below O5 b6 (Nat.le_refl _)
    have hz6 := b6.size
    clear b6 B5
    go_wp2_with fail
    (with_reducible refine (RowsSplit.eqSplitS z _ _ _ (Sees.of_own O5) (Sees.of_own O6)).mono ?_)
    rintro e w7 ⟨rfl, b7⟩
    have B7 := B6.trans (b7.mono B6.size)
    have hz7 := b7.size
    clear b7 B6
    go_wp2
    go_ret
    exact ⟨rfl, B7⟩
  · have e : RowsSplit.szv len = -1 := by unfold RowsSplit.szv; rw [if_neg hb]
    clear hv hlen S
    go_enter Try.func5, Try.ntmps5
    go_wp2_with fail
    (with_reducible refine HSZ.out.mono ?_)
    rintro e w' ⟨rfl, rfl⟩
    rw [e]
    clear e
    go_wp2
    go_ret
    exact ⟨rfl, Below.refl _ _⟩

end Go.Proofs.Ytdejlinldocfjaa.WFnExactSplitSpan
