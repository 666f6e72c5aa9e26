/-
  Rows of one-cell elements, given by a function of the index.
-/
import Derived.Test.YtpollgibgphipaaDoorRow
import Derived.Test.YtpollgibgphipaaDoorLater
namespace Go.Proofs.YtpollgibgphipaaDoor.Tab
open Go.RowKit Go.Proofs.YtpollgibgphipaaDoor.Spin Go.Proofs.YtpollgibgphipaaDoor.Row
set_option linter.unusedVariables false

theorem infoBool : (Tryd.prog.info? 4).map (fun i => (i.zero, i.size, i.bytes)) = some (some (.bool false), 1, 1) := by kernel_rfl
theorem infoInt : (Tryd.prog.info? 3).map (fun i => (i.zero, i.size, i.bytes)) = some (some (.int .i64 0), 1, 8) := by kernel_rfl

def tab (n : Nat) (f : Nat → Value) : List Value := (List.range n).map f
theorem tab_len (n : Nat) (f : Nat → Value) : (tab n f).length = n := by simp [tab]
theorem tab_get {n : Nat} (f : Nat → Value) {j : Nat} (h : j < n) : (tab n f)[j]? = some (f j) := by simp [tab, h]
def updV (f : Nat → Value) (j : Nat) (v : Value) : Nat → Value := fun i => if i = j then v else f i
theorem tab_set (n : Nat) (f : Nat → Value) (j : Nat) (v : Value) : (tab n f).set j v = tab n (updV f j v) := by
  apply List.ext_getElem?
  intro i
  rw [List.getElem?_set]
  by_cases hi : i < n
  · rw [tab_get _ hi, tab_get _ hi, tab_len]
    unfold updV
    by_cases h : j = i
    · subst h; simp [hi]
    · rw [if_neg h, if_neg (fun e => h e.symm)]
  · have h1 : (tab n f)[i]? = none := List.getElem?_eq_none (by rw [tab_len]; omega)
    have h2 : (tab n (updV f j v))[i]? = none := List.getElem?_eq_none (by rw [tab_len]; omega)
    rw [h1, h2, tab_len]
    by_cases h : j = i
    · rw [if_pos h, if_neg (by omega)]
    · rw [if_neg h]
theorem tab_congr {n : Nat} {f g : Nat → Value} (h : ∀ i, i < n → f i = g i) : tab n f = tab n g := by
  unfold tab
  exact List.map_congr_left (fun i hi => h i (List.mem_range.1 hi))
theorem tab_rep (n : Nat) (z : Value) : List.replicate n z = tab n (fun _ => z) := by
  unfold tab
  apply List.ext_getElem?
  intro i
  rw [List.getElem?_replicate]
  by_cases hi : i < n
  · simp [hi]
  · simp [hi]
theorem tab_made (n : Nat) (z : Value) : (madeCells #[z] (n * 1)).toList = tab n (fun _ => z) := by rw [Nat.mul_one, toList_madeCells_one, tab_rep]
theorem tab_flat {α : Type} (enc : α → Value) (e : α → List Value) (he : ∀ x, e x = [enc x]) (n : Nat) (f : Nat → α) : ((List.range n).map f).flatMap e = tab n (fun i => enc (f i)) := by
  unfold tab
  generalize List.range n = l
  induction l with
  | nil => rfl
  | cons x l ih => simp [he, ih]

end Go.Proofs.YtpollgibgphipaaDoor.Tab
