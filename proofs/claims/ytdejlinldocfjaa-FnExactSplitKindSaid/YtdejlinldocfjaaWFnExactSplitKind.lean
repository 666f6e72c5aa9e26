/-
  The walk of the law FnExactSplitKind.
-/
import Derived.Test.YtdejlinldocfjaaSplitLaws
import Derived.Test.YtdejlinldocfjaaSplitKind
namespace Go.Proofs.Ytdejlinldocfjaa.WFnExactSplitKind
open Go.RowKit Go.Proofs.Ytdejlinldocfjaa.Spin Go.Proofs.Ytdejlinldocfjaa.Row Go.Proofs.Ytdejlinldocfjaa.Later Go.Proofs.Ytdejlinldocfjaa.SplitPlain Go.Proofs.Ytdejlinldocfjaa.SplitDef Go.Proofs.Ytdejlinldocfjaa.SplitLaws Go.Proofs.Ytdejlinldocfjaa.SplitKind
set_option linter.unusedVariables false
set_option linter.unusedSimpArgs false

/-- a row is kept where another row is marked -/
theorem own_apart {w w' : World} {base : Nat} {e : TypeId} {k : Nat} {v u : Value} {n : Nat} {cs : List Value} (h : w.ownsRow base e k v n cs) (hg : w.grownBy w' u.ownBlock) (hne : ∀ g, v.ownBlock = some g → u.ownBlock = some g → False) : w'.ownsRow base e k v n cs :=
  h.kept hg (by
    cases h0 : v.ownBlock with
    | none => exact .inl rfl
    | some g => exact .inr fun e => hne g h0 e.symm)

set_option maxRecDepth 100000 in
set_option maxHeartbeats 2000000 in
theorem fnExactSplitKind (a : Option Addr) (len cap : Nat) (z : List Sp) (at' : Int) (w : World) (h : Sees w 6 (.slice a len cap) z.length (z.flatMap encSp) ∧ len = z.length) (_ : (Lit.int .i64 at').wf = true) :
    Calls Try.prog 3 #[.slice a len cap, .int .i64 at'] w (Yes w) := by
  obtain ⟨S, hlen⟩ := h
  have hm := sees_len S
  obtain ⟨v, hv⟩ : ∃ v, v = Value.slice a len cap := ⟨_, rfl⟩
  have HSZ := Lib.hid (RowsSplit.szSplitS a len cap w (by omega))
  rw [← hv] at S HSZ ⊢
  by_cases hb : len ≤ 1048576
  · have hx : z.length ≤ 1048576 := by omega
    have e : RowsSplit.szv len = 1048576 - (len : Int) := by unfold RowsSplit.szv; rw [if_pos hb]
    have hb' : (len : Int) ≤ 1048576 := by omega
    have HX := Lib.hid hx
    have hrl := kind_len z at' hx
    have HTO := Lib.hid (fun W (h : Below w.heap.size w W) => RowsSplit.toSplitS z v W (S.below h (Nat.le_refl _)) hx)
    clear hv hlen S
    have B0 := Below.refl w.heap.size w
    go_enter Try.func3, Try.ntmps3
    go_wp2_with fail
    (with_reducible refine HSZ.out.mono ?_)
    rintro e w' ⟨rfl, rfl⟩
    rw [e]
    clear e
    go_wp2_with fail
    (with_reducible refine (HTO.out _ B0).mono ?_)
    rintro e w1 ⟨v1, rfl, O1, b1⟩
    have B1 := B0.trans (b1.mono B0.size)
    have hz1 := b1.size
    clear b1 B0
    go_wp2_with fail
    (with_reducible refine (sSplitKind z at' _ _ (Sees.of_own O1) HX.out).mono ?_)
    rintro e w2 ⟨v2, rfl, O2, b2⟩
    have B2 := B1.trans (b2.mono B1.size)
    have hz2 := b2.size
    clear b2 B1
    have HV2 := Lib.hid (fun g (h : v2.ownBlock = some g) => O2.lt g h)
    clear O1
    go_wp2_with fail
    (with_reducible refine (HTO.out _ B2).mono ?_)
    rintro e w3 ⟨v3, rfl, O3, b3⟩
    have B3 := B2.trans (b3.mono B2.size)
    replace O2 := own_below O2 b3 (Nat.le_refl _)
    have hz3 := b3.size
    clear b3 B2
    have HV3 := Lib.hid (fun g (h : v3.ownBlock = some g) => O3.lt g h)
    go_wp2_with fail
    (with_reducible refine (iSplitKind z at' _ _ (Sees.of_own O3) HX.out).mono ?_)
    rintro e w4 ⟨v4, rfl, O4, b4⟩
    have B4 := B3.trans (b4.mono B3.size)
    replace O2 := own_below O2 b4 (Nat.le_refl _)
    replace O3 := own_below O3 b4 (Nat.le_refl _)
    have hz4 := b4.size
    clear b4 B3
    have HV4 := Lib.hid (fun g (h : v4.ownBlock = some g) => O4.lt g h)
    go_wp2_with fail
    (with_reducible refine (RowsSplit.eqSplitS (kindOf z at') _ _ _ (Sees.of_own O4) (Sees.of_own O2)).mono ?_)
    rintro e w5 ⟨rfl, b5⟩
    have B5 := B4.trans (b5.mono B4.size)
    replace O2 := own_below O2 b5 (Nat.le_refl _)
    replace O3 := own_below O3 b5 (Nat.le_refl _)
    replace O4 := own_below O4 b5 (Nat.le_refl _)
    have hz5 := b5.size
    clear b5 B4
    go_wp2_with fail
    (with_reducible refine (HTO.out _ B5).mono ?_)
    rintro e w6 ⟨v6, rfl, O6, b6⟩
    have B6 := B5.trans (b6.mono B5.size)
    replace O2 := own_below O2 b6 (Nat.le_refl _)
    replace O3 := own_below O3 b6 (Nat.le_refl _)
    replace O4 := own_below O4 b6 (Nat.le_refl _)
    have hz6 := b6.size
    clear b6 B5
    go_wp2_with fail
    (with_reducible refine (RowsSplit.eqSplitS z _ _ _ (Sees.of_own O3) (Sees.of_own O6)).mono ?_)
    rintro e w7 ⟨rfl, b7⟩
    have B7 := B6.trans (b7.mono B6.size)
    replace O2 := own_below O2 b7 (Nat.le_refl _)
    replace O3 := own_below O3 b7 (Nat.le_refl _)
    replace O4 := own_below O4 b7 (Nat.le_refl _)
    have hz7 := b7.size
    clear b7 B6
    obtain ⟨zl, hzl⟩ : ∃ zl, zl = z.length := ⟨_, rfl⟩
    rw [← hzl] at O3 hx
    clear O6 hzl
    go_wp2_with fail
    (with_reducible refine (RowsSplit.markSplitS _ _ _ _ _ _ O3 (by omega) (by omega) (by omega)).mono ?_)
    rintro e w8 ⟨rfl, Q8, G8⟩
    have B8 := below_only B7 G8 B7.size (fun g h => by have := (HV3.out g h).1; omega)
    replace O2 := own_apart O2 G8 (fun g h1 h2 => by have := (HV2.out g h1).2; have := (HV3.out g h2).1; omega)
    replace O4 := own_apart O4 G8 (fun g h1 h2 => by have := (HV4.out g h1).1; have := (HV3.out g h2).2; omega)
    have hz8 := G8.size
    clear Q8 O3 G8 B7
    go_wp2_with fail
    (with_reducible refine (RowsSplit.eqSplitS (kindOf z at') _ _ _ (Sees.of_own O4) (Sees.of_own O2)).mono ?_)
    rintro e w9 ⟨rfl, b9⟩
    have B9 := B8.trans (b9.mono B8.size)
    replace O2 := own_below O2 b9 (Nat.le_refl _)
    replace O4 := own_below O4 b9 (Nat.le_refl _)
    have hz9 := b9.size
    clear b9 B8
    obtain ⟨rl, hrl'⟩ : ∃ rl, rl = (kindOf z at').length := ⟨_, rfl⟩
    rw [← hrl'] at O4 hrl
    clear hrl'
    go_wp2_with fail
    (with_reducible refine (RowsSplit.markSplitS _ _ _ _ _ _ O4 (by omega) (by omega) (by omega)).mono ?_)
    rintro e w10 ⟨rfl, Q10, G10⟩
    have B10 := below_only B9 G10 B9.size (fun g h => by have := (HV4.out g h).1; omega)
    replace O2 := own_apart O2 G10 (fun g h1 h2 => by have := (HV2.out g h1).2; have := (HV4.out g h2).1; omega)
    have hz10 := G10.size
    clear O4 G10 B9
    go_wp2_with fail
    (with_reducible refine (RowsSplit.heldSplitS _ _ _ _ (Sees.of_own Q10) (by omega) (by omega) (by omega)).mono ?_)
    rintro e w' ⟨rfl, rfl⟩
    go_wp2_with fail
    (with_reducible refine (HTO.out _ B10).mono ?_)
    rintro e w11 ⟨v11, rfl, O11, b11⟩
    have B11 := B10.trans (b11.mono B10.size)
    replace O2 := own_below O2 b11 (Nat.le_refl _)
    replace Q10 := own_below Q10 b11 (Nat.le_refl _)
    have hz11 := b11.size
    clear b11 B10
    go_wp2_with fail
    (with_reducible refine (iSplitKind z at' _ _ (Sees.of_own O11) HX.out).mono ?_)
    rintro e w12 ⟨v12, rfl, O12, b12⟩
    have B12 := B11.trans (b12.mono B11.size)
    replace O2 := own_below O2 b12 (Nat.le_refl _)
    replace Q10 := own_below Q10 b12 (Nat.le_refl _)
    have hz12 := b12.size
    clear b12 B11
    go_wp2_with fail
    (with_reducible refine (RowsSplit.eqSplitS (kindOf z at') _ _ _ (Sees.of_own O12) (Sees.of_own O2)).mono ?_)
    rintro e w13 ⟨rfl, b13⟩
    have B13 := B12.trans (b13.mono B12.size)
    replace Q10 := own_below Q10 b13 (Nat.le_refl _)
    have hz13 := b13.size
    clear b13 B12
    go_wp2_with fail
    (with_reducible refine (RowsSplit.heldSplitS _ _ _ _ (Sees.of_own Q10) (by omega) (by omega) (by omega)).mono ?_)
    rintro e w' ⟨rfl, rfl⟩
    go_wp2
    go_ret
    exact ⟨rfl, B13⟩
  · have e : RowsSplit.szv len = -1 := by unfold RowsSplit.szv; rw [if_neg hb]
    clear hv hlen S
    go_enter Try.func3, Try.ntmps3
    go_wp2_with fail
    (with_reducible refine HSZ.out.mono ?_)
    rintro e w' ⟨rfl, rfl⟩
    rw [e]
    clear e
    go_wp2
    go_ret
    exact ⟨rfl, Below.refl _ _⟩

end Go.Proofs.Ytdejlinldocfjaa.WFnExactSplitKind
