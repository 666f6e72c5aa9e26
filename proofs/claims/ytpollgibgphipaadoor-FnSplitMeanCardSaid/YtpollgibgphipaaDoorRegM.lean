/-
  Small laws for drawn regions with several calls and allocations: what a cell, and a block of two cells, read behind each step.
-/
import Derived.Test.YtpollgibgphipaaDoorTwo
namespace Go.Proofs.YtpollgibgphipaaDoor.RegM
open Go.RowKit Go.Proofs.YtpollgibgphipaaDoor.Spin Go.Proofs.YtpollgibgphipaaDoor.Row Go.Proofs.YtpollgibgphipaaDoor.Two
set_option linter.unusedVariables false
theorem cd {W : World} {p : Addr} {v : Value} (h : W.cell? p = some v) : W.drew.cell? p = some v := h
theorem ca {W : World} {p : Addr} {v : Value} (h : W.cell? p = some v) (hlt : p.block < W.heap.size) (o : Obj) : (W.alloc o).cell? p = some v := (World.cell?_alloc_lt _ _ _ hlt).trans h
theorem cs {W : World} {p q : Addr} {v : Value} (h : W.cell? p = some v) (hne : q.block ≠ p.block) (u : Value) : (W.setCell q u).cell? p = some v := by
  rw [World.cell?_setCell_far _ _ _ _ hne]; exact h
theorem two_new1 (W : World) (o : Obj) (x y : Int) (t : TypeId) : Two ((W.alloc o).alloc (.cells #[.int .i64 x, .int .i64 y] t)) (W.heap.size + 1) x y := by
  have h := Two.new (W.alloc o) x y t
  simpa using h
theorem two_below {W W' : World} {b : Nat} {x y : Int} (hb : Below W.heap.size W W') (h : Two W b x y) : Two W' b x y := h.below hb h.2.2.2.2
end Go.Proofs.YtpollgibgphipaaDoor.RegM
