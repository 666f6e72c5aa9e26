/-
  A block of two integer cells: what it reads, and what keeps it.
-/
import Derived.Test.YtpollgibgphipaaDoorRat3
namespace Go.Proofs.YtpollgibgphipaaDoor.Two
open Go.RowKit Go.Proofs.YtpollgibgphipaaDoor.RatP Go.Proofs.YtpollgibgphipaaDoor.Spin Go.Proofs.YtpollgibgphipaaDoor.Row Go.Proofs.YtpollgibgphipaaDoor.Later
set_option linter.unusedVariables false
set_option linter.unusedSimpArgs false

/-- block b begins with the cells x and y, which can be written -/
def Two (W : World) (b : Nat) (x y : Int) : Prop :=
  W.cell? ⟨b, 0, none⟩ = some (.int .i64 x) ∧ W.cell? ⟨b, 1, none⟩ = some (.int .i64 y) ∧ W.frozen? ⟨b, 0, none⟩ = false ∧ W.frozen? ⟨b, 1, none⟩ = false ∧ b < W.heap.size
theorem Two.below {W W' : World} {b B : Nat} {x y : Int} (h : Two W b x y) (hb : Below B W W') (hB : b < B) : Two W' b x y :=
  ⟨(hb.cell (p := ⟨b, 0, none⟩) hB).trans h.1, (hb.cell (p := ⟨b, 1, none⟩) hB).trans h.2.1, (hb.frozen (p := ⟨b, 0, none⟩) hB).trans h.2.2.1, (hb.frozen (p := ⟨b, 1, none⟩) hB).trans h.2.2.2.1, Nat.lt_of_lt_of_le h.2.2.2.2 hb.size⟩
theorem Two.alloc {W : World} {b : Nat} {x y : Int} (h : Two W b x y) (o : Obj) : Two (W.alloc o) b x y := h.below ((Below.refl W.heap.size W).alloc (Nat.le_refl _) o) h.2.2.2.2
theorem Two.drew {W : World} {b : Nat} {x y : Int} (h : Two W b x y) : Two W.drew b x y := h
theorem Two.set {W : World} {b : Nat} {x y : Int} (h : Two W b x y) {p : Addr} (hp : p.block ≠ b) (u : Value) : Two (W.setCell p u) b x y := by
  obtain ⟨h1, h2, h3, h4, h5⟩ := h
  refine ⟨?_, ?_, ?_, ?_, by simpa [World.setCell] using h5⟩
  · rw [World.cell?_setCell_far _ _ _ _ hp]; exact h1
  · rw [World.cell?_setCell_far _ _ _ _ hp]; exact h2
  · rw [World.frozen?_setCell]; exact h3
  · rw [World.frozen?_setCell]; exact h4
theorem Two.put {W : World} {b : Nat} {x y : Int} (h : Two W b x y) (u v : Int) : Two ((W.setCell ⟨b, 0, none⟩ (.int .i64 u)).setCell ⟨b, 1, none⟩ (.int .i64 v)) b u v := by
  obtain ⟨h1, h2, h3, h4, h5⟩ := h
  refine ⟨?_, ?_, ?_, ?_, by simpa [World.setCell] using h5⟩
  · rw [World.cell?_setCell_other]
    · exact World.cell?_setCell_same' _ _ _ (by rw [h1]; rfl)
    · simp
  · refine World.cell?_setCell_same' _ _ _ ?_
    rw [World.cell?_setCell_other]
    · rw [h2]; rfl
    · simp
  · rw [World.frozen?_setCell, World.frozen?_setCell]; exact h3
  · rw [World.frozen?_setCell, World.frozen?_setCell]; exact h4
theorem Two.new (W : World) (x y : Int) (t : TypeId) : Two (W.alloc (.cells #[.int .i64 x, .int .i64 y] t)) W.heap.size x y := by
  refine ⟨?_, ?_, ?_, ?_, by simp⟩ <;> simp
end Go.Proofs.YtpollgibgphipaaDoor.Two
