/-
  A region that draws its order, whose operations only read and whose callees leave what was there as it was: walked once.
-/
import Derived.Test.YtpollgibgphipaaDoorRow
import Derived.BigGuardPart
import Derived.IntWalk
import Derived.StillTailTactics
namespace Go.Proofs.YtpollgibgphipaaDoor.Later
open Go.RowKit Go.Proofs.YtpollgibgphipaaDoor.Spin Go.Proofs.YtpollgibgphipaaDoor.Row
set_option linter.unusedVariables false

/-- a world in which what lay below B is as it was -/
structure Later (B : Nat) (w : World) where
  W : World
  h : Below B w W

instance {B : Nat} {w : World} : Inhabited (Later B w) := ⟨⟨w, Below.refl _ _⟩⟩

theorem wp_region_later {P : Program} {id : Nat} {Q : Exit → Act → World → Prop} {a : Act} {w : World} {l : List Oper} (B : Nat) (hm : P.follows .mixedOrders = true) (hB : Region.lexB .any l.toArray = true)
    (h : wpQuiet P l.toArray (fun w' => ∃ p : Later B w, w' = p.W) (fun a' => ∀ w', (∃ p : Later B w, w' = p.W) → Q .normal a' w') l a) : (Code.region id l.toArray true).wp P Q a w :=
  wp_region_quiet (C := fun w' => ∃ p : Later B w, w' = p.W) hm hB ⟨⟨w.drew, (Below.refl _ _).drew⟩, rfl⟩ (by simpa using h)

/-- a region whose operations read or call quietly, but for its last ones -/
theorem wp_region_tail {P : Program} {id : Nat} {Q : Exit → Act → World → Prop} {a : Act} {w : World} {l : List Oper} (n : Nat) (hm : P.follows .mixedOrders = true) (hB : Region.lexTailB .any l.toArray n = true)
    (h : ∀ W, W = w.drew → wpStill P l.toArray W (fun a' => wpList P l.toArray Q (l.drop n) a' W) (l.take n) a) : (Code.region id l.toArray true).wp P Q a w := wp_region_still_tail n hm hB (h _ rfl)

theorem later_gives {P : Program} {f : FuncId} {args : Array Value} {B : Nat} {w : World} {p : Later B w} {v : Value} (hB : B ≤ w.heap.size) (h : Calls P f args p.W (Gives v p.W)) : Calls P f args p.W fun e w'' => e = .returned v ∧ ∃ p : Later B w, w'' = p.W :=
  h.mono fun _ _ ⟨he, hb⟩ => ⟨he, ⟨_, p.h.trans (hb.mono (Nat.le_trans hB p.h.size))⟩, rfl⟩

theorem later_same {P : Program} {f : FuncId} {args : Array Value} {B : Nat} {w : World} {p : Later B w} {v : Value} (h : Calls P f args p.W fun e w' => e = .returned v ∧ p.W = w') : Calls P f args p.W fun e w'' => e = .returned v ∧ ∃ p : Later B w, w'' = p.W :=
  h.mono fun _ _ ⟨he, hb⟩ => ⟨he, p, hb.symm⟩

theorem Later.cell {B : Nat} {w : World} {b o : Nat} {v : Value} (h : w.cell? ⟨b, o, none⟩ = some v) (hb : b < B) (p : Later B w) : p.W.cell? ⟨b, o, none⟩ = some v := (p.h.cell (p := ⟨b, o, none⟩) hb).trans h

end Go.Proofs.YtpollgibgphipaaDoor.Later
