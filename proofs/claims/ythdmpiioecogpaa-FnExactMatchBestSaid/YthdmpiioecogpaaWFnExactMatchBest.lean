/-
  The walk of the law FnExactMatchBest.
-/
import Derived.Test.YthdmpiioecogpaaSchemeLaws
import Derived.Test.YthdmpiioecogpaaMatchBest
namespace Go.Proofs.Ythdmpiioecogpaa.WFnExactMatchBest
open Go.RowKit Go.Proofs.Ythdmpiioecogpaa.Spin Go.Proofs.Ythdmpiioecogpaa.Row Go.Proofs.Ythdmpiioecogpaa.Plain Go.Proofs.Ythdmpiioecogpaa.Later Go.Proofs.Ythdmpiioecogpaa.Node Go.Proofs.Ythdmpiioecogpaa.RowsNode Go.Proofs.Ythdmpiioecogpaa.SchemeLaws Go.Proofs.Ythdmpiioecogpaa.MatchBest
set_option linter.unusedVariables false

set_option maxRecDepth 100000 in
set_option maxHeartbeats 1000000 in
theorem fnExactMatchBest (a : Option Addr) (len cap : Nat) (z : List Nd) (x t : Int) (w : World) (h : Sees w 3 (.slice a len cap) z.length (z.flatMap encN) ∧ len = z.length) (_ : (Lit.int .i64 x).wf = true) (_ : (Lit.int .i64 t).wf = true) :
    Calls Try.prog 8 #[.slice a len cap, .int .i64 x, .int .i64 t] w (Yes w) := by
  obtain ⟨S, hlen⟩ := h
  have hm := sees_len S
  obtain ⟨v, hv⟩ : ∃ v, v = Value.slice a len cap := ⟨_, rfl⟩
  have HSZ := Lib.hid (szNodeS a len cap w (by omega))
  rw [← hv] at S HSZ ⊢
  by_cases hb : len ≤ 1048576
  · have hx : z.length ≤ 1048576 := by omega
    have e : szv len = 1048576 - (len : Int) := by unfold szv; rw [if_pos hb]
    have hb' : (len : Int) ≤ 1048576 := by omega
    clear hv hlen
    have B0 := Below.refl w.heap.size w
    go_enter Try.func8, Try.ntmps8
    go_wp2_with fail
    (with_reducible refine HSZ.out.mono ?_)
    rintro e w' ⟨rfl, rfl⟩
    rw [e]
    clear e
    go_wp2_with fail
    (with_reducible refine (toNodeS z _ _ S hx).mono ?_)
    rintro e w1 ⟨v1, rfl, O1, b1⟩
    have B1 := B0.trans (b1.mono B0.size)
    replace S := Sees.below S b1 (Nat.le_refl _)
    have hz1 := b1.size
    clear b1 B0
    go_wp2_with fail
    (with_reducible refine (sMatchBest z _ x t _ (Sees.of_own O1)).mono ?_)
    rintro e w2 ⟨rfl, b2⟩
    have B2 := B1.trans (b2.mono B1.size)
    replace S := Sees.below S b2 (Nat.le_refl _)
    have hz2 := b2.size
    clear b2 B1
    go_wp2_with fail
    (with_reducible refine (toNodeS z _ _ S hx).mono ?_)
    rintro e w3 ⟨v3, rfl, O3, b3⟩
    have B3 := B2.trans (b3.mono B2.size)
    replace S := Sees.below S b3 (Nat.le_refl _)
    have hz3 := b3.size
    clear b3 B2
    go_wp2_with fail
    (with_reducible refine (iMatchBest z _ x t _ (Sees.of_own O3)).mono ?_)
    rintro e w4 ⟨rfl, b4⟩
    have B4 := B3.trans (b4.mono B3.size)
    replace O3 := own_below O3 b4 (Nat.le_refl _)
    replace S := Sees.below S b4 (Nat.le_refl _)
    have hz4 := b4.size
    clear b4 B3
    generalize bestOf z x t = r
    go_wp2_with fail
    (with_reducible refine (toNodeS z _ _ S hx).mono ?_)
    rintro e w5 ⟨v5, rfl, O5, b5⟩
    have B5 := B4.trans (b5.mono B4.size)
    replace O3 := own_below O3 b5 (Nat.le_refl _)
    have hz5 := b5.size
    clear b5 B4
    go_wp2_with fail
    (with_reducible refine (eqNodeS z _ _ _ (Sees.of_own O3) (Sees.of_own O5)).mono ?_)
    rintro e w6 ⟨rfl, b6⟩
    have B6 := B5.trans (b6.mono B5.size)
    have hz6 := b6.size
    clear b6 B5
    go_wp2
    go_ret
    exact ⟨rfl, B6⟩
  · have e : szv len = -1 := by unfold szv; rw [if_neg hb]
    clear hv hlen S
    go_enter Try.func8, Try.ntmps8
    go_wp2_with fail
    (with_reducible refine HSZ.out.mono ?_)
    rintro e w' ⟨rfl, rfl⟩
    rw [e]
    clear e
    go_wp2
    go_ret
    exact ⟨rfl, Below.refl _ _⟩

end Go.Proofs.Ythdmpiioecogpaa.WFnExactMatchBest
