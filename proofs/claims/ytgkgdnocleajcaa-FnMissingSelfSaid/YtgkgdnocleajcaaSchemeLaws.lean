/-
  The walks of the laws on valid schemes.
-/
import Derived.Test.YtgkgdnocleajcaaOpenNode
import Derived.Test.YtgkgdnocleajcaaRowsNode
namespace Go.Proofs.Ytgkgdnocleajcaa.SchemeLaws
open Go.RowKit Go.Proofs.Ytgkgdnocleajcaa.Spin Go.Proofs.Ytgkgdnocleajcaa.Row Go.Proofs.Ytgkgdnocleajcaa.Plain Go.Proofs.Ytgkgdnocleajcaa.Later Go.Proofs.Ytgkgdnocleajcaa.Node Go.Proofs.Ytgkgdnocleajcaa.RowsNode
set_option linter.unusedVariables false

/-- the law returns true; what was there is as it was -/
def Yes (w : World) (e : Ending) (w' : World) : Prop := e = .returned (.bool true) ∧ Below w.heap.size w w'

theorem sees_len {w : World} {k : Nat} {v : Value} {n : Nat} {cs : List Value} (h : Sees w k v n cs) : n ≤ 9223372036854775807 := by
  rcases h.2 with ⟨rfl, _⟩ | ⟨b, o, c, _, h1, h2, _⟩
  · omega
  · unfold maxLen at h2; omega

set_option maxHeartbeats 1000000 in
theorem fnExactSchemeValid (a : Option Addr) (len cap : Nat) (z : List Nd) (w : World) (h : Sees w 3 (.slice a len cap) z.length (z.flatMap encN) ∧ len = z.length) :
    Calls Try.prog 3 #[.slice a len cap] w (Yes w) := by
  obtain ⟨S, hlen⟩ := h
  have hm := sees_len S
  obtain ⟨v, hv⟩ : ∃ v, v = Value.slice a len cap := ⟨_, rfl⟩
  have HSZ := Lib.hid (szNodeS a len cap w (by omega))
  rw [← hv] at S HSZ ⊢
  by_cases hb : len ≤ 1048576
  · have hx : z.length ≤ 1048576 := by omega
    have e : szv len = 1048576 - (len : Int) := by unfold szv; rw [if_pos hb]
    have hb' : (len : Int) ≤ 1048576 := by omega
    clear hv hlen
    have B0 := Below.refl w.heap.size w
    go_enter Try.func3, Try.ntmps3
    go_wp2_with fail
    (with_reducible refine HSZ.out.mono ?_)
    rintro e w' ⟨rfl, rfl⟩
    rw [e]
    clear e
    go_wp2_with fail
    (with_reducible refine (toNodeS z _ _ S hx).mono ?_)
    rintro e w1 ⟨v1, rfl, O1, b1⟩
    have B1 := B0.trans (b1.mono B0.size)
    replace S := Sees.below S b1 (Nat.le_refl _)
    have hz1 := b1.size
    clear b1 B0
    go_wp2_with fail
    (with_reducible refine (sSchemeValid z _ _ (Sees.of_own O1)).mono ?_)
    rintro e w2 ⟨rfl, b2⟩
    have B2 := B1.trans (b2.mono B1.size)
    replace S := Sees.below S b2 (Nat.le_refl _)
    have hz2 := b2.size
    clear b2 B1
    go_wp2_with fail
    (with_reducible refine (toNodeS z _ _ S hx).mono ?_)
    rintro e w3 ⟨v3, rfl, O3, b3⟩
    have B3 := B2.trans (b3.mono B2.size)
    replace S := Sees.below S b3 (Nat.le_refl _)
    have hz3 := b3.size
    clear b3 B2
    go_wp2_with fail
    (with_reducible refine (iSchemeValid z _ _ (Sees.of_own O3)).mono ?_)
    rintro e w4 ⟨rfl, b4⟩
    have B4 := B3.trans (b4.mono B3.size)
    replace O3 := own_below O3 b4 (Nat.le_refl _)
    replace S := Sees.below S b4 (Nat.le_refl _)
    have hz4 := b4.size
    clear b4 B3
    generalize schemeOk z = r
    go_wp2_with fail
    (with_reducible refine (toNodeS z _ _ S hx).mono ?_)
    rintro e w5 ⟨v5, rfl, O5, b5⟩
    have B5 := B4.trans (b5.mono B4.size)
    replace O3 := own_below O3 b5 (Nat.le_refl _)
    have hz5 := b5.size
    clear b5 B4
    go_wp2_with fail
    (with_reducible refine (eqNodeS z _ _ _ (Sees.of_own O3) (Sees.of_own O5)).mono ?_)
    rintro e w6 ⟨rfl, b6⟩
    have B6 := B5.trans (b6.mono B5.size)
    have hz6 := b6.size
    clear b6 B5
    go_wp2
    go_ret
    exact ⟨rfl, B6⟩
  · have e : szv len = -1 := by unfold szv; rw [if_neg hb]
    clear hv hlen S
    go_enter Try.func3, Try.ntmps3
    go_wp2_with fail
    (with_reducible refine HSZ.out.mono ?_)
    rintro e w' ⟨rfl, rfl⟩
    rw [e]
    clear e
    go_wp2
    go_ret
    exact ⟨rfl, Below.refl _ _⟩

end Go.Proofs.Ytgkgdnocleajcaa.SchemeLaws
