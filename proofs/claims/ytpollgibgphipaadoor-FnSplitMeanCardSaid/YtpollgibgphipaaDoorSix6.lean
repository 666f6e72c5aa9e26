/-
  A block of six integer cells: what it reads, and what keeps it.
-/
import Derived.Test.YtpollgibgphipaaDoorTwo
import Derived.Test.YtpollgibgphipaaDoorSplitDef
namespace Go.Proofs.YtpollgibgphipaaDoor.Six6
open Go.RowKit Go.Proofs.YtpollgibgphipaaDoor.Spin Go.Proofs.YtpollgibgphipaaDoor.Row Go.Proofs.YtpollgibgphipaaDoor.SplitPlain Go.Proofs.YtpollgibgphipaaDoor.SplitDef
set_option linter.unusedVariables false
set_option linter.unusedSimpArgs false
/-- block b begins with the six cells of x, which can be written -/
def Six (W : World) (b : Nat) (x : Sp) : Prop :=
  W.cell? ⟨b, 0, none⟩ = some (.int .i64 x.u) ∧ W.cell? ⟨b, 1, none⟩ = some (.int .i64 x.l) ∧ W.cell? ⟨b, 2, none⟩ = some (.int .i64 x.p) ∧ W.cell? ⟨b, 3, none⟩ = some (.int .i64 x.q) ∧ W.cell? ⟨b, 4, none⟩ = some (.int .i64 x.s) ∧ W.cell? ⟨b, 5, none⟩ = some (.int .i64 x.t) ∧ W.frozen? ⟨b, 0, none⟩ = false ∧ W.frozen? ⟨b, 1, none⟩ = false ∧ W.frozen? ⟨b, 2, none⟩ = false ∧ W.frozen? ⟨b, 3, none⟩ = false ∧ W.frozen? ⟨b, 4, none⟩ = false ∧ W.frozen? ⟨b, 5, none⟩ = false ∧ b < W.heap.size
theorem Six.below {W W' : World} {b B : Nat} {x : Sp} (h : Six W b x) (hb : Below B W W') (hB : b < B) : Six W' b x :=
  ⟨(hb.cell (p := ⟨b, 0, none⟩) hB).trans h.1, (hb.cell (p := ⟨b, 1, none⟩) hB).trans h.2.1, (hb.cell (p := ⟨b, 2, none⟩) hB).trans h.2.2.1, (hb.cell (p := ⟨b, 3, none⟩) hB).trans h.2.2.2.1, (hb.cell (p := ⟨b, 4, none⟩) hB).trans h.2.2.2.2.1, (hb.cell (p := ⟨b, 5, none⟩) hB).trans h.2.2.2.2.2.1, (hb.frozen (p := ⟨b, 0, none⟩) hB).trans h.2.2.2.2.2.2.1, (hb.frozen (p := ⟨b, 1, none⟩) hB).trans h.2.2.2.2.2.2.2.1, (hb.frozen (p := ⟨b, 2, none⟩) hB).trans h.2.2.2.2.2.2.2.2.1, (hb.frozen (p := ⟨b, 3, none⟩) hB).trans h.2.2.2.2.2.2.2.2.2.1, (hb.frozen (p := ⟨b, 4, none⟩) hB).trans h.2.2.2.2.2.2.2.2.2.2.1, (hb.frozen (p := ⟨b, 5, none⟩) hB).trans h.2.2.2.2.2.2.2.2.2.2.2.1, Nat.lt_of_lt_of_le h.2.2.2.2.2.2.2.2.2.2.2.2 hb.size⟩
theorem Six.new (W : World) (u l p q s t : Int) : Six (W.alloc (.cells #[.int .i64 u, .int .i64 l, .int .i64 p, .int .i64 q, .int .i64 s, .int .i64 t] 40)) W.heap.size ⟨u, l, p, q, s, t⟩ := by
  refine ⟨?_, ?_, ?_, ?_, ?_, ?_, ?_, ?_, ?_, ?_, ?_, ?_, ?_⟩ <;> simp
theorem far (W : World) (b i k : Nat) (v : Value) (h : i ≠ k) : (W.setCell ⟨b, k, none⟩ v).cell? ⟨b, i, none⟩ = W.cell? ⟨b, i, none⟩ := by
  rw [World.cell?_setCell_other]
  first | (simp; done) | (simp; exact h)
theorem Six.put {W : World} {b : Nat} {x : Sp} (h : Six W b x) (u1 l1 p1 q1 s1 t1 : Int) : Six ((((((W.setCell ⟨b, 0, none⟩ (.int .i64 u1)).setCell ⟨b, 1, none⟩ (.int .i64 l1)).setCell ⟨b, 2, none⟩ (.int .i64 p1)).setCell ⟨b, 3, none⟩ (.int .i64 q1)).setCell ⟨b, 4, none⟩ (.int .i64 s1)).setCell ⟨b, 5, none⟩ (.int .i64 t1)) b ⟨u1, l1, p1, q1, s1, t1⟩ := by
  refine ⟨?_, ?_, ?_, ?_, ?_, ?_, ?_, ?_, ?_, ?_, ?_, ?_, by simpa [World.setCell] using h.2.2.2.2.2.2.2.2.2.2.2.2⟩
  · rw [far _ b 0 5 _ (by decide)]
    rw [far _ b 0 4 _ (by decide)]
    rw [far _ b 0 3 _ (by decide)]
    rw [far _ b 0 2 _ (by decide)]
    rw [far _ b 0 1 _ (by decide)]
    refine World.cell?_setCell_same' _ _ _ ?_
    rw [h.1]; rfl
  · rw [far _ b 1 5 _ (by decide)]
    rw [far _ b 1 4 _ (by decide)]
    rw [far _ b 1 3 _ (by decide)]
    rw [far _ b 1 2 _ (by decide)]
    refine World.cell?_setCell_same' _ _ _ ?_
    rw [far _ b 1 0 _ (by decide)]
    rw [h.2.1]; rfl
  · rw [far _ b 2 5 _ (by decide)]
    rw [far _ b 2 4 _ (by decide)]
    rw [far _ b 2 3 _ (by decide)]
    refine World.cell?_setCell_same' _ _ _ ?_
    rw [far _ b 2 1 _ (by decide)]
    rw [far _ b 2 0 _ (by decide)]
    rw [h.2.2.1]; rfl
  · rw [far _ b 3 5 _ (by decide)]
    rw [far _ b 3 4 _ (by decide)]
    refine World.cell?_setCell_same' _ _ _ ?_
    rw [far _ b 3 2 _ (by decide)]
    rw [far _ b 3 1 _ (by decide)]
    rw [far _ b 3 0 _ (by decide)]
    rw [h.2.2.2.1]; rfl
  · rw [far _ b 4 5 _ (by decide)]
    refine World.cell?_setCell_same' _ _ _ ?_
    rw [far _ b 4 3 _ (by decide)]
    rw [far _ b 4 2 _ (by decide)]
    rw [far _ b 4 1 _ (by decide)]
    rw [far _ b 4 0 _ (by decide)]
    rw [h.2.2.2.2.1]; rfl
  · refine World.cell?_setCell_same' _ _ _ ?_
    rw [far _ b 5 4 _ (by decide)]
    rw [far _ b 5 3 _ (by decide)]
    rw [far _ b 5 2 _ (by decide)]
    rw [far _ b 5 1 _ (by decide)]
    rw [far _ b 5 0 _ (by decide)]
    rw [h.2.2.2.2.2.1]; rfl
  · rw [World.frozen?_setCell, World.frozen?_setCell, World.frozen?_setCell, World.frozen?_setCell, World.frozen?_setCell, World.frozen?_setCell]; exact h.2.2.2.2.2.2.1
  · rw [World.frozen?_setCell, World.frozen?_setCell, World.frozen?_setCell, World.frozen?_setCell, World.frozen?_setCell, World.frozen?_setCell]; exact h.2.2.2.2.2.2.2.1
  · rw [World.frozen?_setCell, World.frozen?_setCell, World.frozen?_setCell, World.frozen?_setCell, World.frozen?_setCell, World.frozen?_setCell]; exact h.2.2.2.2.2.2.2.2.1
  · rw [World.frozen?_setCell, World.frozen?_setCell, World.frozen?_setCell, World.frozen?_setCell, World.frozen?_setCell, World.frozen?_setCell]; exact h.2.2.2.2.2.2.2.2.2.1
  · rw [World.frozen?_setCell, World.frozen?_setCell, World.frozen?_setCell, World.frozen?_setCell, World.frozen?_setCell, World.frozen?_setCell]; exact h.2.2.2.2.2.2.2.2.2.2.1
  · rw [World.frozen?_setCell, World.frozen?_setCell, World.frozen?_setCell, World.frozen?_setCell, World.frozen?_setCell, World.frozen?_setCell]; exact h.2.2.2.2.2.2.2.2.2.2.2.1
end Go.Proofs.YtpollgibgphipaaDoor.Six6
