/-
  Contracts of the laws' helpers on schemes and lines: the wave number between two nodes, the other parity.
-/
import Derived.Test.YthdmpiioecogpaaRowsLine
import Derived.Test.YthdmpiioecogpaaLinesS
import Derived.Test.YthdmpiioecogpaaDrawScheme
namespace Go.Proofs.Ythdmpiioecogpaa.LinesHelp
open Go.RowKit Go.Proofs.Ythdmpiioecogpaa.Spin Go.Proofs.Ythdmpiioecogpaa.Row Go.Proofs.Ythdmpiioecogpaa.Plain Go.Proofs.Ythdmpiioecogpaa.Later Go.Proofs.Ythdmpiioecogpaa.Node Go.Proofs.Ythdmpiioecogpaa.Line Go.Proofs.Ythdmpiioecogpaa.LinesFn Go.Proofs.Ythdmpiioecogpaa.LinesS Go.Proofs.Ythdmpiioecogpaa.DrawScheme
set_option linter.unusedVariables false
set_option linter.unusedSimpArgs false

theorem between_nil (u w : Int) : between [] u w = -1 := rfl
theorem between_yes' {x : Ln} {l : List Ln} {u w : Int} (h1 : (x.u : Int) = u) (h2 : (x.l : Int) = w) : between (x :: l) u w = x.n := by simp [between, h1, h2]
theorem between_no1 {x : Ln} {l : List Ln} {u w : Int} (h1 : ¬ (x.u : Int) = u) : between (x :: l) u w = between l u w := by simp [between, h1]
theorem between_no2 {x : Ln} {l : List Ln} {u w : Int} (h2 : ¬ (x.l : Int) = w) : between (x :: l) u w = between l u w := by simp [between, h2]
theorem between_bounds (ns : List Nd) (u w : Int) : -1 ≤ between (linesOf ns) u w ∧ between (linesOf ns) u w ≤ 200000 := by
  unfold between
  cases hf : (linesOf ns).find? (fun x => decide ((x.u : Int) = u) && decide ((x.l : Int) = w)) with
  | none => simp
  | some x =>
    have := line_parts (List.mem_of_find?_eq_some hf)
    show -1 ≤ x.n ∧ x.n ≤ 200000
    omega


theorem one_encN (l : List Nd) : ∀ u ∈ l.flatMap encN, u.oneCell' = true := by
  intro u hu
  obtain ⟨x, _, hx⟩ := List.mem_flatMap.1 hu
  simp [encN] at hx
  rcases hx with rfl | rfl | rfl <;> rfl

/-- the cells of a whole slice, as append reads them -/
theorem all_cells {w W : World} {b o n : Nat} {cs : List Value} (hcell : ∀ j, j < n → w.cell? ⟨b, o + j, none⟩ = cs[j]?) (hl : cs.length = n) (hW : ∀ j, W.cell? ⟨b, j, none⟩ = w.cell? ⟨b, j, none⟩) : ∀ j u, cs[j]? = some u → W.cell? ((⟨b, o, none⟩ : Addr).add j) = some u := by
  intro j u hu
  have e : (⟨b, o, none⟩ : Addr).add j = ⟨b, o + j, none⟩ := Go.WideShapes.add_plain _ _ _
  have hlt := (List.getElem?_eq_some_iff.1 hu).1
  rw [e, hW, hcell _ (by omega), hu]

theorem flip_step (ns : List Nd) (m : Nat) (hm : m < ns.length) : ((ns.take m).map flipN ++ ns.drop m).set m (flipN ns[m]) = (ns.take (m + 1)).map flipN ++ ns.drop (m + 1) := by
  rw [List.drop_eq_getElem_cons hm, List.take_succ_eq_append_getElem hm, List.map_append]
  have hl : ((ns.take m).map flipN).length = m := by simp; omega
  rw [List.set_append_right _ _ (by omega), hl, Nat.sub_self, List.set_cons_zero, List.append_assoc]
  rfl


end Go.Proofs.Ythdmpiioecogpaa.LinesHelp
