/-
  Components of a line: the plain structure and its cells.
-/
import Derived.Test.YtpollgibgphipaaDoorLater
namespace Go.Proofs.YtpollgibgphipaaDoor.SplitPlain
structure Sp where
  u : Int
  l : Int
  p : Int
  q : Int
  s : Int
  t : Int
deriving DecidableEq
instance : Inhabited Sp := ⟨⟨0, 0, 0, 0, 0, 0⟩⟩
end Go.Proofs.YtpollgibgphipaaDoor.SplitPlain
namespace Go.Proofs.YtpollgibgphipaaDoor.SplitDef
open Go.RowKit Go.Proofs.YtpollgibgphipaaDoor.Row Go.Proofs.YtpollgibgphipaaDoor.SplitPlain
set_option linter.unusedVariables false
set_option linter.unusedSimpArgs false
def encSp (x : Sp) : List Value := [.int .i64 x.u, .int .i64 x.l, .int .i64 x.p, .int .i64 x.q, .int .i64 x.s, .int .i64 x.t]
theorem encSp_len (x : Sp) : (encSp x).length = 6 := rfl
theorem one_encSp (xs : List Sp) : ∀ u ∈ xs.flatMap encSp, u.oneCell' = true := by
  intro u hu
  obtain ⟨x, _, hx⟩ := List.mem_flatMap.1 hu
  simp [encSp] at hx
  rcases hx with rfl | rfl | rfl | rfl | rfl | rfl <;> rfl
theorem own_emptySp (w : World) (base : Nat) (hb : base ≤ w.heap.size) : (w.alloc (.cells #[] 40)).ownsRow base 40 6 (.slice (some ⟨w.heap.size, 0, none⟩) 0 0) 0 [] := by
  have h := World.ownsRow_lit (base := base) (e := 40) (size := 6) w #[] 0 (by simpa using hb) (by decide) rfl
  simpa using h
end Go.Proofs.YtpollgibgphipaaDoor.SplitDef
