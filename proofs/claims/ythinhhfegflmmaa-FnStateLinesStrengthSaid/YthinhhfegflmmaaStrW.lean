/-
  What the laws on strengths need of plain facts.
-/
import Derived.Test.YthinhhfegflmmaaWFnAllowedStrength
import Derived.Test.YthinhhfegflmmaaDrawStr
namespace Go.Proofs.Ythinhhfegflmmaa.StrW
open Go.RowKit Go.Proofs.Ythinhhfegflmmaa.RatP Go.Proofs.Ythinhhfegflmmaa.Rat Go.Proofs.Ythinhhfegflmmaa.ChoP Go.Proofs.Ythinhhfegflmmaa.StrP Go.Proofs.Ythinhhfegflmmaa.Spin Go.Proofs.Ythinhhfegflmmaa.Row Go.Proofs.Ythinhhfegflmmaa.Coupled Go.Proofs.Ythinhhfegflmmaa.Later Go.Proofs.Ythinhhfegflmmaa.Two Go.Proofs.Ythinhhfegflmmaa.Rd Go.Proofs.Ythinhhfegflmmaa.LineS Go.Proofs.Ythinhhfegflmmaa.StrengthS Go.Proofs.Ythinhhfegflmmaa.WFnAllowedStrength
set_option linter.unusedVariables false
set_option linter.unusedSimpArgs false

theorem first_ok {g : Int → Ro} (hor : ∀ i, (g i).ok = false → g i = bad) {js : List Int} (hl : 1 ≤ js.length) (h : (sumFrom ⟨0, 1, true⟩ (js.map g)).ok = true) : ∃ i, (g i).ok = true := by
  cases js with
  | nil => simp at hl
  | cons i is =>
    refine ⟨i, ?_⟩
    cases hg : (g i).ok
    · have hb := hor i hg
      have h1 : sumFrom ⟨0, 1, true⟩ ((i :: is).map g) = if (addR 0 1 (g i).n (g i).d).ok = true then sumFrom (addR 0 1 (g i).n (g i).d) (is.map g) else bad := rfl
      rw [h1, hb, show addR 0 1 bad.n bad.d = bad from add_bad 0 1] at h
      simp [bad] at h
    · rfl
theorem strSum_parts {s l j s' l' : Int} (h : (strSum s l j s' l').ok = true) : smallL s l j = true ∧ s = s' := by
  unfold strSum at h
  by_cases ht : termOk s' l' = true
  · rw [if_pos ht] at h
    obtain ⟨i, hi⟩ := first_ok (fun i => line_or s l j s' l' i) (js_some ht).1 h
    obtain ⟨h1, h2, h3⟩ := line_ok hi
    exact ⟨h1, h3⟩
  · rw [if_neg ht] at h; simp [bad] at h
theorem strTotal_parts {s l s' l' : Int} (h : (strTotal s l s' l').ok = true) : s = s' := by
  unfold strTotal at h
  by_cases ht : termOk s l = true ∧ termOk s' l' = true
  · rw [if_pos ht] at h
    obtain ⟨i, hi⟩ := first_ok (fun i => strSum_or s l i s' l') (js_some ht.1).1 h
    exact (strSum_parts hi).2
  · rw [if_neg ht] at h; simp [bad] at h
theorem total_facts {s l s' l' : Int} (hs : 0 ≤ s ∧ s ≤ 3) (hl : 0 ≤ l ∧ l ≤ 2) (hl' : 0 ≤ l' ∧ l' ≤ 4) (h : (strTotal s l s' l').ok = true) : s = s' ∧ strTotal s' l' s l = strTotal s l s' l' ∧ (if l - l' < -1 ∨ 1 < l - l' ∨ l + l' = 0 then strTotal s l s' l' = ⟨0, 1, true⟩ else strTotal s l s' l' = ⟨s + 1, 1, true⟩) := by
  obtain rfl := strTotal_parts h
  have h1 := List.all_eq_true.1 (List.all_eq_true.1 (List.all_eq_true.1 total_law s (mem_ss hs)) l (mem_ls hl)) l' (mem_ls4 hl')
  unfold totalLaw at h1
  rw [h] at h1
  simp only [Bool.not_true, Bool.false_or, Bool.and_eq_true, decide_eq_true_eq] at h1
  obtain ⟨⟨h2, h3⟩, h4⟩ := h1
  refine ⟨rfl, h3, ?_⟩
  split at h4
  · next hc => rw [if_pos hc]; simpa using h4
  · next hc => rw [if_neg hc]; simpa using h4
theorem sum_facts {s l j s' l' : Int} (hs : 0 ≤ s ∧ s ≤ 3) (hl : 0 ≤ l ∧ l ≤ 2) (hl' : 0 ≤ l' ∧ l' ≤ 4) (h : (strSum s l j s' l').ok = true) : (0 ≤ j ∧ j ≤ 6) ∧ (if l - l' < -1 ∨ 1 < l - l' ∨ l + l' = 0 then strSum s l j s' l' = ⟨0, 1, true⟩ else (mkR (j + 1) (2 * l + 1)).ok = true ∧ mkR (j + 1) (2 * l + 1) = strSum s l j s' l') := by
  obtain ⟨h0, rfl⟩ := strSum_parts h
  have h1 := lvls_at sum_law hs hl hl' h0
  obtain ⟨-, -, hj, -⟩ := smallL_parts h0
  unfold sumLaw at h1
  rw [h] at h1
  simp only [Bool.not_true, Bool.false_or] at h1
  refine ⟨by omega, ?_⟩
  split at h1
  · next hc => rw [if_pos hc]; simpa using h1
  · next hc => rw [if_neg hc]; simpa using h1
theorem lwhole (n : Int) (w : World) : Calls Try.prog 13 #[.int .i64 n] w (Gives (.agg #[.int .i64 n, .int .i64 1]) w) := by
  go_enter Try.func13, Try.ntmps13
  go_wp2
  refine bodyPost_ret (v := .agg #[.int .i64 n, .int .i64 1]) (by simp [results, Try.results13, go_sem, *, lt2, lt3, lt4, lt5, lt6]) rfl ⟨rfl, (by repeat (first | (with_reducible refine Below.drew ?_) | (with_reducible refine below_drewN ?_ _) | (with_reducible refine Below.alloc ?_ ?_ _) | (with_reducible refine Below.setCell ?_ ?_ _) | (with_reducible assumption) | (with_reducible exact Below.refl _ _) | omega | (simp <;> omega)))⟩
end Go.Proofs.Ythinhhfegflmmaa.StrW
