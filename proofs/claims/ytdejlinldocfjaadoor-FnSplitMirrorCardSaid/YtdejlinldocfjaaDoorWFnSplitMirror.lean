/-
  The walk of the law FnSplitMirror.
-/
import Derived.Test.YtdejlinldocfjaaDoorSplitLaws
import Derived.Test.YtdejlinldocfjaaDoorRowsSplit
import Derived.Test.YtdejlinldocfjaaDoorDrawSpl
import Derived.Test.YtdejlinldocfjaaDoorSplI
import Derived.Test.YtdejlinldocfjaaDoorSplS
import Derived.Test.YtdejlinldocfjaaDoorSplD
import Derived.BigQuiet

namespace Go.Proofs.YtdejlinldocfjaaDoor.WFnSplitMirror
open Go.RowKit Go.Proofs.YtdejlinldocfjaaDoor.RatP Go.Proofs.YtdejlinldocfjaaDoor.ChoP Go.Proofs.YtdejlinldocfjaaDoor.Rat Go.Proofs.YtdejlinldocfjaaDoor.Spin Go.Proofs.YtdejlinldocfjaaDoor.Row Go.Proofs.YtdejlinldocfjaaDoor.Later Go.Proofs.YtdejlinldocfjaaDoor.SplitPlain Go.Proofs.YtdejlinldocfjaaDoor.SplitDef Go.Proofs.YtdejlinldocfjaaDoor.SplitP Go.Proofs.YtdejlinldocfjaaDoor.Fac Go.Proofs.YtdejlinldocfjaaDoor.FacI Go.Proofs.YtdejlinldocfjaaDoor.SplitLaws Go.Proofs.YtdejlinldocfjaaDoor.Two Go.Proofs.YtdejlinldocfjaaDoor.Rd Go.Proofs.YtdejlinldocfjaaDoor.DrawSpl Go.Proofs.YtdejlinldocfjaaDoor.SplS Go.Proofs.YtdejlinldocfjaaDoor.SplI Go.Proofs.YtdejlinldocfjaaDoor.SplD 
set_option linter.unusedVariables false
set_option linter.unusedSimpArgs false

set_option maxRecDepth 100000 in
set_option maxHeartbeats 8000000 in
theorem fnSplitMirror (a : Option Addr) (n c : Nat) (zs : List Int) (w0 : World) (hE : Errs w0) (h : IsRow .u8 w0 a n c zs) :
    Calls Tryd.prog 5 #[.slice a n c] w0 (Yes w0) := by
  have HO := Lib.hid (drawSplitOf a n c zs w0 h)
  have HE := Lib.hid hE
  clear h hE
  by_cases hn : 1048576 < n
  · go_enter Tryd.func5, Tryd.ntmps5
    go_wp2_with fail
    all_goals go_ret
    all_goals exact ⟨rfl, Below.refl _ _⟩
  have hd1 : decide ((1048576 : Int) < (n : Int)) = false := decide_eq_false (by omega)
  go_enter Tryd.func5, Tryd.ntmps5
  go_wp2_with fail
  refine HO.out.mono ?_
  rintro e w ⟨s, l, j, s', l', j', rfl, B0⟩
  clear HO
  cases hs : splitOk s l j s' l' j'
  · have HI := Lib.hid (fun W (_ : Below w.heap.size w W) => iSplitOf_no s l j s' l' j' W hs)
    have HS := Lib.hid (fun W => sSplitOf_no s l j s' l' j' W hs)
    have HSS := Lib.hid (fun W v1 v2 h1 h2 => RowsSplit.sameSplits [] v1 v2 W h1 h2)
    clear hs HE
    have LV0 := lv6_two w s l j s' l' j'
    have BZ0 : Below w.heap.size w ((w.alloc (.cells #[.int .i64 s, .int .i64 l, .int .i64 j] 31)).alloc (.cells #[.int .i64 s', .int .i64 l', .int .i64 j'] 31)) := (by repeat (first | (with_reducible refine Below.drew ?_) | (with_reducible refine below_drewN ?_ _) | (with_reducible refine Below.alloc ?_ ?_ _) | (with_reducible refine Below.setCell ?_ ?_ _) | (with_reducible assumption) | (with_reducible exact Below.refl _ _) | omega | (simp <;> omega)))
    have hz0 : ((w.alloc (.cells #[.int .i64 s, .int .i64 l, .int .i64 j] 31)).alloc (.cells #[.int .i64 s', .int .i64 l', .int .i64 j'] 31)).heap.size = w.heap.size + 2 := by simp
    have HZ0 := Lib.hid hz0
    clear hz0
    go_wp2_with fail
    (with_reducible refine (HI.out _ BZ0).mono ?_)
    rintro e w1 ⟨v1, rfl, O1, b1⟩
    have B1 := BZ0.trans (b1.mono BZ0.size)
    have LV1 := LV0.below b1 (by have := HZ0.out; omega) (by have := HZ0.out; omega)
    have S1 := Sees.of_own O1
    clear b1 LV0 BZ0 HZ0 O1
    have HL1 := Lib.hid LV1
    obtain ⟨x0, x1, x2, y0, y1, y2, lx, ly⟩ := LV1
    go_wp2_with fail
    (with_reducible refine (HS.out _).mono ?_)
    rintro e w2 ⟨v2, rfl, O2, b2⟩
    have B2 := B1.trans (b2.mono B1.size)
    have S1 := S1.below b2 (Nat.le_refl _)
    have S2 := Sees.of_own O2
    have HL2 := Lib.hid (HL1.out.below b2 lx ly)
    clear b2 B1 O2 HL1 x0 x1 x2 y0 y1 y2 lx ly
    go_wp2_with fail
    (with_reducible refine (HSS.out _ _ _ S1 S2).mono ?_)
    rintro e w3 ⟨rfl, b3⟩
    have B3 := B2.trans (b3.mono B2.size)
    have S1 := S1.below b3 (Nat.le_refl _)
    have S2 := S2.below b3 (Nat.le_refl _)
    clear b3 B2
    go_wp2_with fail
    (with_reducible refine (HSS.out _ _ _ S1 S2).mono ?_)
    rintro e w4 ⟨rfl, b4⟩
    have B4 := B3.trans (b4.mono B3.size)
    go_wp2
    go_ret
    exact ⟨rfl, B0.trans (B4.mono B0.size)⟩
  have P := (splitOk_pair hs).pair
  have HEW := Lib.hid (HE.out.below B0 (by have := HE.out; obtain ⟨_, _, _, h⟩ := this; exact h))
  have HI := Lib.hid (fun W (hB : Below w.heap.size w W) => iSplitOf_yes s l j s' l' j' W hs (HEW.out.below hB (by have := HEW.out; obtain ⟨_, _, _, h⟩ := this; exact h)))
  have HS := Lib.hid (fun W => sSplitOf_yes s l j s' l' j' W hs)
  have HSP := Lib.hid hs
  obtain ⟨A, hA⟩ : ∃ A, A = gn s l j := ⟨_, rfl⟩
  obtain ⟨C, hC⟩ : ∃ C, C = gn s' l' j' := ⟨_, rfl⟩
  obtain ⟨xs, hxs⟩ : ∃ xs, xs = splitS s l j s' l' j' := ⟨_, rfl⟩
  have hxl : xs = splitL j j' A C := by rw [hxs, hA, hC]; rfl
  rw [← hxs] at HI HS
  rw [← hA, ← hC] at P
  have HA := Lib.hid hA
  have HC' := Lib.hid hC
  have HXL := Lib.hid hxl
  have HSS := Lib.hid (fun W v1 v2 h1 h2 => RowsSplit.sameSplits xs v1 v2 W h1 h2)
  have hlen := P.len_is
  rw [← hxl] at hlen
  have HP := Lib.hid P
  clear hs HE hA hC hxs hxl
  have LV0 := lv6_two w s l j s' l' j'
  have BZ0 : Below w.heap.size w ((w.alloc (.cells #[.int .i64 s, .int .i64 l, .int .i64 j] 31)).alloc (.cells #[.int .i64 s', .int .i64 l', .int .i64 j'] 31)) := (by repeat (first | (with_reducible refine Below.drew ?_) | (with_reducible refine below_drewN ?_ _) | (with_reducible refine Below.alloc ?_ ?_ _) | (with_reducible refine Below.setCell ?_ ?_ _) | (with_reducible assumption) | (with_reducible exact Below.refl _ _) | omega | (simp <;> omega)))
  have hz0 : ((w.alloc (.cells #[.int .i64 s, .int .i64 l, .int .i64 j] 31)).alloc (.cells #[.int .i64 s', .int .i64 l', .int .i64 j'] 31)).heap.size = w.heap.size + 2 := by simp
  have HZ0 := Lib.hid hz0
  clear hz0
  go_wp2_with fail
  (with_reducible refine (HI.out _ BZ0).mono ?_)
  rintro e w1 ⟨v1, rfl, O1, b1⟩
  have B1 := BZ0.trans (b1.mono BZ0.size)
  have LV1 := LV0.below b1 (by have := HZ0.out; omega) (by have := HZ0.out; omega)
  have S1 := Sees.of_own O1
  clear b1 LV0 BZ0 HZ0 O1
  have HL1 := Lib.hid LV1
  obtain ⟨x0, x1, x2, y0, y1, y2, lx, ly⟩ := LV1
  go_wp2_with fail
  (with_reducible refine (HS.out _).mono ?_)
  rintro e w2 ⟨v2, rfl, O2, b2⟩
  have B2 := B1.trans (b2.mono B1.size)
  have S1 := S1.below b2 (Nat.le_refl _)
  have S2 := Sees.of_own O2
  have HL2 := Lib.hid (HL1.out.below b2 lx ly)
  clear b2 B1 O2 HL1 x0 x1 x2 y0 y1 y2 lx ly
  go_wp2_with fail
  (with_reducible refine (HSS.out _ _ _ S1 S2).mono ?_)
  rintro e w3 ⟨rfl, b3⟩
  have B3 := B2.trans (b3.mono B2.size)
  have HL3 := Lib.hid (HL2.out.below b3 HL2.out.2.2.2.2.2.2.1 HL2.out.2.2.2.2.2.2.2)
  have S1 := S1.below b3 (Nat.le_refl _)
  clear b3 B2 S2 HL2 HSS
  obtain ⟨m, hm⟩ : ∃ m, m = xs.length := ⟨_, rfl⟩
  have HM := Lib.hid hm
  rw [← hm] at hlen
  obtain ⟨hm19, hm0, hml⟩ := hlen
  have HML := Lib.hid hml
  obtain ⟨b, o, c', rfl, hnc, hcm, hb, hcell⟩ : ∃ b o c', v1 = .slice (some ⟨b, o, none⟩) m c' ∧ m ≤ c' ∧ c' ≤ maxLen ∧ b < w3.heap.size ∧ ∀ i, i < xs.length * 6 → w3.cell? ⟨b, o + i, none⟩ = (xs.flatMap encSp)[i]? := by
    rcases S1.2 with ⟨h0, _⟩ | ⟨b, o, c', rfl, h1, h2, h3, h4⟩
    · omega
    · exact ⟨b, o, c', by rw [hm], by omega, h2, h3, h4⟩
  unfold maxLen at hcm
  have HC := Lib.hid hcell
  have B3' := B0.trans (B3.mono B0.size)
  have hw3 : 1 < w3.heap.size := Nat.lt_of_lt_of_le (by have := HEW.out; obtain ⟨_, _, _, h⟩ := this; exact h) B3.size
  have HB3 := Lib.hid B3'
  have HE3 := Lib.hid (HEW.out.below B3 (by have := HEW.out; obtain ⟨_, _, _, h⟩ := this; exact h))
  clear hm hcell S1 hml P HI HS HEW B0 B3 B3'
  go_wp2
  go_loopw [9] (fun i wr => ∃ q : Nat, q ≤ m ∧ i = .int .i64 q ∧ Below w3.heap.size w3 wr) (fun i _ => m - (intOf i).toNat)
  case atStart => exact ⟨0, by omega, rfl, Below.refl _ _⟩
  case round =>
    obtain ⟨i, hi, rfl, hB⟩ := hrel
    by_cases hlt : i < m
    · have hi1 : (i : Int) < (m : Int) := by omega
      have hil : i < xs.length := by have := HM.out; omega
      have hbw : b < wr.heap.size := Nat.lt_of_lt_of_le hb hB.size
      obtain ⟨k, hk⟩ : ∃ k : Nat, i + k + 1 = m := ⟨m - 1 - i, by omega⟩
      have hkl : k < xs.length := by have := HM.out; omega
      have hki : (m : Int) - 1 - (i : Int) = (k : Int) := by omega
      have hk1 : (k : Int) < (m : Int) := by omega
      obtain ⟨u0, u1, u2, u3, u4, u5⟩ := RowsSplit.at_Split (w := wr) (xs := xs) (b := b) (o := o) (fun q hq => (hB.cell (p := ⟨b, o + q, none⟩) hb).trans (HC.out q hq)) i hil
      obtain ⟨v0, v1, v2, v3, v4, v5⟩ := RowsSplit.at_Split (w := wr) (xs := xs) (b := b) (o := o) (fun q hq => (hB.cell (p := ⟨b, o + q, none⟩) hb).trans (HC.out q hq)) k hkl
      have hmir : xs[i].u = -xs[k].u ∧ xs[i].l = -xs[k].l ∧ xs[i].p = -xs[k].p ∧ xs[i].q = xs[k].q ∧ xs[i].s = xs[k].s ∧ xs[i].t = xs[k].t := by
        have hx := HXL.out
        have hP := HP.out
        have hm := HM.out
        clear u0 u1 u2 u3 u4 u5 v0 v1 v2 v3 v4 v5 HXL HC HM
        subst hx
        have h := hP.mirror hil hkl (by omega)
        simpa only [Int.zero_sub] using h
      have hbd : (-6 ≤ xs[k].u ∧ xs[k].u ≤ 6) ∧ (-6 ≤ xs[k].l ∧ xs[k].l ≤ 6) ∧ (-1000000000 ≤ xs[k].p ∧ xs[k].p ≤ 1000000000) := by
        have hx := HXL.out
        have hP := HP.out
        clear u0 u1 u2 u3 u4 u5 v0 v1 v2 v3 v4 v5 HXL HC HM
        subst hx
        have := sp_bds hP hkl
        exact ⟨this.1, this.2.1, this.2.2.1⟩
      generalize xs[i] = e at *
      generalize xs[k] = f at *
      obtain ⟨eu, el, ep, eq, es, et⟩ := e
      obtain ⟨fu, fl, fp, fq, fs, ft⟩ := f
      simp only at u0 u1 u2 u3 u4 u5 v0 v1 v2 v3 v4 v5 hmir hbd
      obtain ⟨rfl, rfl, rfl, rfl, rfl, rfl⟩ := hmir
      obtain ⟨⟨g0, g1⟩, ⟨g2, g3⟩, g4, g5⟩ := hbd
      have HN := Lib.hid (fun W => lminus fp eq W g4 g5)
      have HBO := Lib.hid hB
      have hm' : (m : Int) ≤ 19 := by omega
      have hi0 : (0 : Int) ≤ (i : Int) := Int.natCast_nonneg _
      go_wp2_with fail
      go_upto_region 13 with fail
      have fa0 : ∀ p : Later (wr.heap.size + 1 + 1) ((wr.alloc (.cells #[.int .i64 (-fu), .int .i64 (-fl), .int .i64 (-fp), .int .i64 (eq), .int .i64 (es), .int .i64 (et)] 42)).alloc (.cells #[.int .i64 (fu), .int .i64 (fl), .int .i64 (fp), .int .i64 (eq), .int .i64 (es), .int .i64 (et)] 42)), p.W.cell? ⟨wr.heap.size, 0, none⟩ = some (.int .i64 (-fu)) := Later.cell (by simp [World.cell?_alloc_at, World.cell?_alloc_past, World.cell?_alloc_lt]) (by omega)
      have fa1 : ∀ p : Later (wr.heap.size + 1 + 1) ((wr.alloc (.cells #[.int .i64 (-fu), .int .i64 (-fl), .int .i64 (-fp), .int .i64 (eq), .int .i64 (es), .int .i64 (et)] 42)).alloc (.cells #[.int .i64 (fu), .int .i64 (fl), .int .i64 (fp), .int .i64 (eq), .int .i64 (es), .int .i64 (et)] 42)), p.W.cell? ⟨wr.heap.size, 1, none⟩ = some (.int .i64 (-fl)) := Later.cell (by simp [World.cell?_alloc_at, World.cell?_alloc_past, World.cell?_alloc_lt]) (by omega)
      have fa2 : ∀ p : Later (wr.heap.size + 1 + 1) ((wr.alloc (.cells #[.int .i64 (-fu), .int .i64 (-fl), .int .i64 (-fp), .int .i64 (eq), .int .i64 (es), .int .i64 (et)] 42)).alloc (.cells #[.int .i64 (fu), .int .i64 (fl), .int .i64 (fp), .int .i64 (eq), .int .i64 (es), .int .i64 (et)] 42)), p.W.cell? ⟨wr.heap.size, 2, none⟩ = some (.int .i64 (-fp)) := Later.cell (by simp [World.cell?_alloc_at, World.cell?_alloc_past, World.cell?_alloc_lt]) (by omega)
      have fa3 : ∀ p : Later (wr.heap.size + 1 + 1) ((wr.alloc (.cells #[.int .i64 (-fu), .int .i64 (-fl), .int .i64 (-fp), .int .i64 (eq), .int .i64 (es), .int .i64 (et)] 42)).alloc (.cells #[.int .i64 (fu), .int .i64 (fl), .int .i64 (fp), .int .i64 (eq), .int .i64 (es), .int .i64 (et)] 42)), p.W.cell? ⟨wr.heap.size, 3, none⟩ = some (.int .i64 (eq)) := Later.cell (by simp [World.cell?_alloc_at, World.cell?_alloc_past, World.cell?_alloc_lt]) (by omega)
      have fa4 : ∀ p : Later (wr.heap.size + 1 + 1) ((wr.alloc (.cells #[.int .i64 (-fu), .int .i64 (-fl), .int .i64 (-fp), .int .i64 (eq), .int .i64 (es), .int .i64 (et)] 42)).alloc (.cells #[.int .i64 (fu), .int .i64 (fl), .int .i64 (fp), .int .i64 (eq), .int .i64 (es), .int .i64 (et)] 42)), p.W.cell? ⟨wr.heap.size, 4, none⟩ = some (.int .i64 (es)) := Later.cell (by simp [World.cell?_alloc_at, World.cell?_alloc_past, World.cell?_alloc_lt]) (by omega)
      have fa5 : ∀ p : Later (wr.heap.size + 1 + 1) ((wr.alloc (.cells #[.int .i64 (-fu), .int .i64 (-fl), .int .i64 (-fp), .int .i64 (eq), .int .i64 (es), .int .i64 (et)] 42)).alloc (.cells #[.int .i64 (fu), .int .i64 (fl), .int .i64 (fp), .int .i64 (eq), .int .i64 (es), .int .i64 (et)] 42)), p.W.cell? ⟨wr.heap.size, 5, none⟩ = some (.int .i64 (et)) := Later.cell (by simp [World.cell?_alloc_at, World.cell?_alloc_past, World.cell?_alloc_lt]) (by omega)
      have fb0 : ∀ p : Later (wr.heap.size + 1 + 1) ((wr.alloc (.cells #[.int .i64 (-fu), .int .i64 (-fl), .int .i64 (-fp), .int .i64 (eq), .int .i64 (es), .int .i64 (et)] 42)).alloc (.cells #[.int .i64 (fu), .int .i64 (fl), .int .i64 (fp), .int .i64 (eq), .int .i64 (es), .int .i64 (et)] 42)), p.W.cell? ⟨wr.heap.size + 1, 0, none⟩ = some (.int .i64 (fu)) := Later.cell (by simp [World.cell?_alloc_at, World.cell?_alloc_past, World.cell?_alloc_lt]) (by omega)
      have fb1 : ∀ p : Later (wr.heap.size + 1 + 1) ((wr.alloc (.cells #[.int .i64 (-fu), .int .i64 (-fl), .int .i64 (-fp), .int .i64 (eq), .int .i64 (es), .int .i64 (et)] 42)).alloc (.cells #[.int .i64 (fu), .int .i64 (fl), .int .i64 (fp), .int .i64 (eq), .int .i64 (es), .int .i64 (et)] 42)), p.W.cell? ⟨wr.heap.size + 1, 1, none⟩ = some (.int .i64 (fl)) := Later.cell (by simp [World.cell?_alloc_at, World.cell?_alloc_past, World.cell?_alloc_lt]) (by omega)
      have fb2 : ∀ p : Later (wr.heap.size + 1 + 1) ((wr.alloc (.cells #[.int .i64 (-fu), .int .i64 (-fl), .int .i64 (-fp), .int .i64 (eq), .int .i64 (es), .int .i64 (et)] 42)).alloc (.cells #[.int .i64 (fu), .int .i64 (fl), .int .i64 (fp), .int .i64 (eq), .int .i64 (es), .int .i64 (et)] 42)), p.W.cell? ⟨wr.heap.size + 1, 2, none⟩ = some (.int .i64 (fp)) := Later.cell (by simp [World.cell?_alloc_at, World.cell?_alloc_past, World.cell?_alloc_lt]) (by omega)
      have fb3 : ∀ p : Later (wr.heap.size + 1 + 1) ((wr.alloc (.cells #[.int .i64 (-fu), .int .i64 (-fl), .int .i64 (-fp), .int .i64 (eq), .int .i64 (es), .int .i64 (et)] 42)).alloc (.cells #[.int .i64 (fu), .int .i64 (fl), .int .i64 (fp), .int .i64 (eq), .int .i64 (es), .int .i64 (et)] 42)), p.W.cell? ⟨wr.heap.size + 1, 3, none⟩ = some (.int .i64 (eq)) := Later.cell (by simp [World.cell?_alloc_at, World.cell?_alloc_past, World.cell?_alloc_lt]) (by omega)
      have fb4 : ∀ p : Later (wr.heap.size + 1 + 1) ((wr.alloc (.cells #[.int .i64 (-fu), .int .i64 (-fl), .int .i64 (-fp), .int .i64 (eq), .int .i64 (es), .int .i64 (et)] 42)).alloc (.cells #[.int .i64 (fu), .int .i64 (fl), .int .i64 (fp), .int .i64 (eq), .int .i64 (es), .int .i64 (et)] 42)), p.W.cell? ⟨wr.heap.size + 1, 4, none⟩ = some (.int .i64 (es)) := Later.cell (by simp [World.cell?_alloc_at, World.cell?_alloc_past, World.cell?_alloc_lt]) (by omega)
      have fb5 : ∀ p : Later (wr.heap.size + 1 + 1) ((wr.alloc (.cells #[.int .i64 (-fu), .int .i64 (-fl), .int .i64 (-fp), .int .i64 (eq), .int .i64 (es), .int .i64 (et)] 42)).alloc (.cells #[.int .i64 (fu), .int .i64 (fl), .int .i64 (fp), .int .i64 (eq), .int .i64 (es), .int .i64 (et)] 42)), p.W.cell? ⟨wr.heap.size + 1, 5, none⟩ = some (.int .i64 (et)) := Later.cell (by simp [World.cell?_alloc_at, World.cell?_alloc_past, World.cell?_alloc_lt]) (by omega)
      clear u0 u1 u2 u3 u4 u5 v0 v1 v2 v3 v4 v5 hB
      refine Later.wp_region_later (wr.heap.size + 1 + 1) (by kernel_rfl) (by kernel_rfl) ?_
      repeat (first | go_big_quiet_step ((go_at_call 18; exact later_gives (by simp) (HN.out _))) | quiet_step ((go_at_call 18; exact later_gives (by simp) (HN.out _))))
      refine wpQuiet_nil ?_
      rintro w5 ⟨q5, hq5⟩
      have b5 := q5.h
      rw [← hq5] at b5
      clear hq5 q5
      have hbo := HBO.out
      have B5 : Below w3.heap.size w3 w5 := Below.trans (Below.alloc (Below.alloc hbo hbo.size _) (by have := hbo.size; simp; omega) _) (b5.mono (by have := hbo.size; omega))
      clear fa0 fb0 fa1 fb1 fa2 fb2 fa3 fb3 fa4 fb4 fa5 fb5
      go_wp2
      go_roundw
      case rel => exact ⟨i + 1, by omega, by go_num, B5⟩
      case measure => simp [intOf]; omega
    · obtain rfl : i = m := by omega
      go_wp2
      go_ret
      exact ⟨rfl, HB3.out.trans (hB.mono HB3.out.size)⟩
end Go.Proofs.YtdejlinldocfjaaDoor.WFnSplitMirror
