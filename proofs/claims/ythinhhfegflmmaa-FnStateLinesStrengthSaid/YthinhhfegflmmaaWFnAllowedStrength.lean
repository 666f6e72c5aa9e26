/-
  The walk of the law FnAllowedStrength.
-/
import Derived.Test.YthinhhfegflmmaaStrQ
import Derived.Test.YthinhhfegflmmaaSum6
import Derived.Test.YthinhhfegflmmaaStrengthI
import Derived.Test.YthinhhfegflmmaaDrawState
import Derived.Test.YthinhhfegflmmaaOpenRows
namespace Go.Proofs.Ythinhhfegflmmaa.WFnAllowedStrength
open Go.RowKit Go.Proofs.Ythinhhfegflmmaa.RatP Go.Proofs.Ythinhhfegflmmaa.Rat Go.Proofs.Ythinhhfegflmmaa.ChoP Go.Proofs.Ythinhhfegflmmaa.StrP Go.Proofs.Ythinhhfegflmmaa.Spin Go.Proofs.Ythinhhfegflmmaa.Row Go.Proofs.Ythinhhfegflmmaa.Coupled Go.Proofs.Ythinhhfegflmmaa.Later Go.Proofs.Ythinhhfegflmmaa.Two Go.Proofs.Ythinhhfegflmmaa.Allowed Go.Proofs.Ythinhhfegflmmaa.DrawState Go.Proofs.Ythinhhfegflmmaa.Rd Go.Proofs.Ythinhhfegflmmaa.SixS Go.Proofs.Ythinhhfegflmmaa.SixI Go.Proofs.Ythinhhfegflmmaa.LineS Go.Proofs.Ythinhhfegflmmaa.LineI Go.Proofs.Ythinhhfegflmmaa.Six
set_option linter.unusedVariables false
set_option linter.unusedSimpArgs false

def Yes (w : World) (e : Ending) (w' : World) : Prop := e = .returned (.bool true) ∧ Below w.heap.size w w'
theorem sumGives : ∀ a b c d e, Dom a b c d e → SumGives a b c d e := fun a b c d e hd W => sum6 a b c d e 2 W hd.2.2.2.2.2
theorem line_ok {s l j s' l' j' : Int} (h : (lineS s l j s' l' j').ok = true) : smallL s l j = true ∧ smallL s' l' j' = true ∧ s = s' := by
  cases h1 : smallL s l j
  · rw [line_no1 s' l' j' h1] at h; cases h
  · cases h2 : smallL s' l' j'
    · rw [line_no2 s l j h2] at h; cases h
    · by_cases h3 : s = s'
      · exact ⟨rfl, rfl, h3⟩
      · rw [line_no3 l j l' j' h3] at h; cases h
theorem mem_ss {s : Int} (h : 0 ≤ s ∧ s ≤ 3) : s ∈ ss := by
  obtain rfl | rfl | rfl | rfl : s = 0 ∨ s = 1 ∨ s = 2 ∨ s = 3 := by omega
  all_goals decide
theorem mem_ls {s : Int} (h : 0 ≤ s ∧ s ≤ 2) : s ∈ ls := by
  obtain rfl | rfl | rfl : s = 0 ∨ s = 1 ∨ s = 2 := by omega
  all_goals decide
theorem mem_ls4 {s : Int} (h : 0 ≤ s ∧ s ≤ 4) : s ∈ ls4 := by
  obtain rfl | rfl | rfl | rfl | rfl : s = 0 ∨ s = 1 ∨ s = 2 ∨ s = 3 ∨ s = 4 := by omega
  all_goals decide
theorem lvls_at {p : Int → Int → Int → Int → Bool} (h : lvls p = true) {s l j k : Int} (hs : 0 ≤ s ∧ s ≤ 3) (hl : 0 ≤ l ∧ l ≤ 2) (hk : 0 ≤ k ∧ k ≤ 4) (hsm : smallL s l j = true) : p s l j k = true := by
  obtain ⟨-, -, hj, -⟩ := smallL_parts hsm
  have h1 := List.all_eq_true.1 (List.all_eq_true.1 (List.all_eq_true.1 h s (mem_ss hs)) l (mem_ls hl)) j (mem_js hj)
  rw [hsm] at h1
  have h2 : (ls4.all fun k => p s l j k) = true := h1
  exact List.all_eq_true.1 h2 k (mem_ls4 hk)
/-- what is allowed has strength -/
theorem strength_pos {s l j s' l' j' : Int} {o o' : Bool} (hs : 0 ≤ s ∧ s ≤ 3) (hl : 0 ≤ l ∧ l ≤ 2) (hl' : 0 ≤ l' ∧ l' ≤ 4) (ha : allowed s l j o s' l' j' o' = true) (hok : (lineS s l j s' l' j').ok = true) : 0 < (lineS s l j s' l' j').n := by
  obtain ⟨h1, h2, rfl⟩ := line_ok hok
  have h := lvls_at allowed_law hs hl hl' h1
  obtain ⟨-, -, hj', -⟩ := smallL_parts h2
  have h3 := List.all_eq_true.1 h j' (mem_js hj')
  unfold allowed at ha
  simp only [Bool.and_eq_true] at ha
  obtain ⟨_, ⟨⟨_, _⟩, h5⟩, h6⟩ := ha
  rw [h2, h5, h6, hok] at h3
  simpa using h3

set_option maxRecDepth 100000 in
set_option maxHeartbeats 2000000 in
theorem fnAllowedStrength (a : Option Addr) (n c : Nat) (zs : List Int) (w0 : World) (h : IsRow .u8 w0 a n c zs) :
    Calls Try.prog 6 #[.slice a n c] w0 (Yes w0) := by
  have HO := Lib.hid (drawStateAllowed a n c zs w0 h)
  clear h
  by_cases hn : 1048576 < n
  · go_enter Try.func6, Try.ntmps6
    go_wp2_with fail
    go_ret
    exact ⟨rfl, Below.refl _ _⟩
  · go_enter Try.func6, Try.ntmps6
    go_wp2_with fail
    refine HO.out.mono ?_
    rintro e w ⟨s1, l1, j1, o1, s2, l2, j2, o2, hb1, hb2, rfl, hb0⟩
    clear HO hn
    have HIA := Lib.hid (fun W => iStateAllowed s1 l1 j1 o1 s2 l2 j2 o2 W)
    have HSA := Lib.hid (fun W => sStateAllowed s1 l1 j1 o1 s2 l2 j2 o2 W)
    have HLS := Lib.hid (fun W => iLineStrength s1 l1 j1 s2 l2 j2 W sumGives)
    have hpos := @strength_pos s1 l1 j1 s2 l2 j2 o1 o2 (by omega) (by omega) (by omega)
    clear hb1 hb2
    unfold roV at HLS
    generalize lineS s1 l1 j1 s2 l2 j2 = r at *
    obtain ⟨rn, rd, rok⟩ := r
    cases hal : allowed s1 l1 j1 o1 s2 l2 j2 o2
    · rw [hal] at HIA HSA
      clear hal hpos HLS
      go_wp2_with fail
      (with_reducible refine (HIA.out _).mono ?_)
      rintro e w2 ⟨rfl, b2⟩
      have hz2 := b2.size
      obtain ⟨hc2, hf2⟩ := bcell b2
      have B2 : Below w.heap.size w w2 := Below.trans (by repeat (first | (with_reducible refine Below.drew ?_) | (with_reducible refine below_drewN ?_ _) | (with_reducible refine Below.alloc ?_ ?_ _) | (with_reducible refine Below.setCell ?_ ?_ _) | (with_reducible assumption) | (with_reducible exact Below.refl _ _) | omega | (simp <;> omega))) (b2.mono (by first | omega | (simp <;> omega)))
      (try simp at hz2)
      have hy2 : w.heap.size < w2.heap.size := by omega
      clear b2
      have hx2 : w.heap.size + 1 < w2.heap.size := by omega
      go_wp2_with fail
      (with_reducible refine (HSA.out _).mono ?_)
      rintro e w3 ⟨rfl, b3⟩
      have hz3 := b3.size
      obtain ⟨hc3, hf3⟩ := bcell b3
      have B3 : Below w.heap.size w w3 := Below.trans (by repeat (first | (with_reducible refine Below.drew ?_) | (with_reducible refine below_drewN ?_ _) | (with_reducible refine Below.alloc ?_ ?_ _) | (with_reducible refine Below.setCell ?_ ?_ _) | (with_reducible assumption) | (with_reducible exact Below.refl _ _) | omega | (simp <;> omega))) (b3.mono (by first | omega | (simp <;> omega)))
      (try simp at hz3)
      have hy3 : w.heap.size < w3.heap.size := by omega
      clear b3
      go_wp2
      go_ret
      exact ⟨rfl, hb0.trans (B3.mono hb0.size)⟩
    · rw [hal] at HIA HSA
      have HP := Lib.hid (hpos hal)
      clear hal hpos
      cases rok
      · clear HP
        go_wp2_with fail
        (with_reducible refine (HIA.out _).mono ?_)
        rintro e w2 ⟨rfl, b2⟩
        have hz2 := b2.size
        obtain ⟨hc2, hf2⟩ := bcell b2
        have B2 : Below w.heap.size w w2 := Below.trans (by repeat (first | (with_reducible refine Below.drew ?_) | (with_reducible refine below_drewN ?_ _) | (with_reducible refine Below.alloc ?_ ?_ _) | (with_reducible refine Below.setCell ?_ ?_ _) | (with_reducible assumption) | (with_reducible exact Below.refl _ _) | omega | (simp <;> omega))) (b2.mono (by first | omega | (simp <;> omega)))
        (try simp at hz2)
        have hy2 : w.heap.size < w2.heap.size := by omega
        clear b2
        have hx2 : w.heap.size + 1 < w2.heap.size := by omega
        go_wp2_with fail
        (with_reducible refine (HSA.out _).mono ?_)
        rintro e w3 ⟨rfl, b3⟩
        have hz3 := b3.size
        obtain ⟨hc3, hf3⟩ := bcell b3
        have B3 : Below w.heap.size w w3 := Below.trans (by repeat (first | (with_reducible refine Below.drew ?_) | (with_reducible refine below_drewN ?_ _) | (with_reducible refine Below.alloc ?_ ?_ _) | (with_reducible refine Below.setCell ?_ ?_ _) | (with_reducible assumption) | (with_reducible exact Below.refl _ _) | omega | (simp <;> omega))) (b3.mono (by first | omega | (simp <;> omega)))
        (try simp at hz3)
        have hy3 : w.heap.size < w3.heap.size := by omega
        clear b3
        have hx3 : w.heap.size + 1 < w3.heap.size := by omega
        go_wp2_with fail
        (with_reducible refine (HLS.out _).mono ?_)
        rintro e w4 ⟨rfl, b4⟩
        have hz4 := b4.size
        obtain ⟨hc4, hf4⟩ := bcell b4
        have B4 : Below w.heap.size w w4 := Below.trans (by repeat (first | (with_reducible refine Below.drew ?_) | (with_reducible refine below_drewN ?_ _) | (with_reducible refine Below.alloc ?_ ?_ _) | (with_reducible refine Below.setCell ?_ ?_ _) | (with_reducible assumption) | (with_reducible exact Below.refl _ _) | omega | (simp <;> omega))) (b4.mono (by first | omega | (simp <;> omega)))
        (try simp at hz4)
        have hy4 : w.heap.size < w4.heap.size := by omega
        clear b4
        have hx4 : w.heap.size + 1 < w4.heap.size := by omega
        go_wp2
        go_ret
        exact ⟨rfl, hb0.trans (Below.mono (by repeat (first | (with_reducible refine Below.drew ?_) | (with_reducible refine below_drewN ?_ _) | (with_reducible refine Below.alloc ?_ ?_ _) | (with_reducible refine Below.setCell ?_ ?_ _) | (with_reducible assumption) | (with_reducible exact Below.refl _ _) | omega | (simp <;> omega))) hb0.size)⟩
      · have hp := HP.out rfl
        have hp0 : 0 < rn := hp
        have hp1 : decide (0 < rn) = true := decide_eq_true hp
        clear HP hp
        go_wp2_with fail
        (with_reducible refine (HIA.out _).mono ?_)
        rintro e w2 ⟨rfl, b2⟩
        have hz2 := b2.size
        obtain ⟨hc2, hf2⟩ := bcell b2
        have B2 : Below w.heap.size w w2 := Below.trans (by repeat (first | (with_reducible refine Below.drew ?_) | (with_reducible refine below_drewN ?_ _) | (with_reducible refine Below.alloc ?_ ?_ _) | (with_reducible refine Below.setCell ?_ ?_ _) | (with_reducible assumption) | (with_reducible exact Below.refl _ _) | omega | (simp <;> omega))) (b2.mono (by first | omega | (simp <;> omega)))
        (try simp at hz2)
        have hy2 : w.heap.size < w2.heap.size := by omega
        clear b2
        have hx2 : w.heap.size + 1 < w2.heap.size := by omega
        go_wp2_with fail
        (with_reducible refine (HSA.out _).mono ?_)
        rintro e w3 ⟨rfl, b3⟩
        have hz3 := b3.size
        obtain ⟨hc3, hf3⟩ := bcell b3
        have B3 : Below w.heap.size w w3 := Below.trans (by repeat (first | (with_reducible refine Below.drew ?_) | (with_reducible refine below_drewN ?_ _) | (with_reducible refine Below.alloc ?_ ?_ _) | (with_reducible refine Below.setCell ?_ ?_ _) | (with_reducible assumption) | (with_reducible exact Below.refl _ _) | omega | (simp <;> omega))) (b3.mono (by first | omega | (simp <;> omega)))
        (try simp at hz3)
        have hy3 : w.heap.size < w3.heap.size := by omega
        clear b3
        have hx3 : w.heap.size + 1 < w3.heap.size := by omega
        go_wp2_with fail
        (with_reducible refine (HLS.out _).mono ?_)
        rintro e w4 ⟨rfl, b4⟩
        have hz4 := b4.size
        obtain ⟨hc4, hf4⟩ := bcell b4
        have B4 : Below w.heap.size w w4 := Below.trans (by repeat (first | (with_reducible refine Below.drew ?_) | (with_reducible refine below_drewN ?_ _) | (with_reducible refine Below.alloc ?_ ?_ _) | (with_reducible refine Below.setCell ?_ ?_ _) | (with_reducible assumption) | (with_reducible exact Below.refl _ _) | omega | (simp <;> omega))) (b4.mono (by first | omega | (simp <;> omega)))
        (try simp at hz4)
        have hy4 : w.heap.size < w4.heap.size := by omega
        clear b4
        have hx4 : w.heap.size + 1 < w4.heap.size := by omega
        go_wp2
        all_goals go_ret
        all_goals exact ⟨rfl, hb0.trans (Below.mono (by repeat (first | (with_reducible refine Below.drew ?_) | (with_reducible refine below_drewN ?_ _) | (with_reducible refine Below.alloc ?_ ?_ _) | (with_reducible refine Below.setCell ?_ ?_ _) | (with_reducible assumption) | (with_reducible exact Below.refl _ _) | omega | (simp <;> omega))) hb0.size)⟩

end Go.Proofs.Ythinhhfegflmmaa.WFnAllowedStrength
