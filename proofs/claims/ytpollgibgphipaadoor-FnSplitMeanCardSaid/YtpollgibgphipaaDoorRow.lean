/-
  Slices in memory: what a slice value reads, and what a call that makes a new slice leaves.
-/
import Derived.Test.YtpollgibgphipaaDoorSpin
import Derived.Maps.AppendAt
import Derived.OwnWalk
import Derived.Deep.RegionHeld3
import Derived.Deep.AppendLies
import Derived.Deep.QuietTactic
import Derived.BigQuiet
namespace Go.Proofs.YtpollgibgphipaaDoor.Row
open Go.RowKit Go.Proofs.YtpollgibgphipaaDoor.Spin
set_option linter.unusedVariables false
set_option linter.unusedSimpArgs false

theorem lt2 (n : Nat) : n < n + 1 + 1 := by omega
theorem lt3 (n : Nat) : n < n + 1 + 1 + 1 := by omega
theorem lt4 (n : Nat) : n < n + 1 + 1 + 1 + 1 := by omega
theorem lt5 (n : Nat) : n < n + 1 + 1 + 1 + 1 + 1 := by omega
theorem lt6 (n : Nat) : n < n + 1 + 1 + 1 + 1 + 1 + 1 := by omega

/-- v is a slice of n elements of k cells each that reads the cells cs -/
def Sees (w : World) (k : Nat) (v : Value) (n : Nat) (cs : List Value) : Prop :=
  cs.length = n * k ∧ ((n = 0 ∧ ∃ a c, v = .slice a 0 c) ∨ ∃ b o c, v = .slice (some ⟨b, o, none⟩) n c ∧ n ≤ c ∧ c ≤ maxLen ∧ b < w.heap.size ∧ ∀ j, j < n * k → w.cell? ⟨b, o + j, none⟩ = cs[j]?)

theorem Sees.of_own {w : World} {base : Nat} {e : TypeId} {k : Nat} {v : Value} {n : Nat} {cs : List Value} (h : w.ownsRow base e k v n cs) : Sees w k v n cs := by
  refine ⟨h.1, ?_⟩
  rcases h.2 with ⟨rfl, rfl⟩ | ⟨g, cap, cur, rfl, hb, hg, hn, hm, hs, ht⟩
  · exact .inl ⟨rfl, _, _, rfl⟩
  · exact .inr ⟨g, 0, cap, rfl, hn, hm, lt_of_block hg, fun j hj => by rw [Nat.zero_add]; exact h.cellAt j hj⟩

theorem Sees.below {w w' : World} {k : Nat} {v : Value} {n : Nat} {cs : List Value} {B : Nat} (h : Sees w k v n cs) (hb : Below B w w') (hB : w.heap.size ≤ B) : Sees w' k v n cs := by
  refine ⟨h.1, ?_⟩
  rcases h.2 with h0 | ⟨b, o, c, hv, hn, hm, hlt, hc⟩
  · exact .inl h0
  · exact .inr ⟨b, o, c, hv, hn, hm, Nat.lt_of_lt_of_le hlt hb.size, fun j hj => (hb.cell (p := ⟨b, o + j, none⟩) (Nat.lt_of_lt_of_le hlt hB)).trans (hc j hj)⟩

/-- a new slice of n elements of type E, k cells each, is returned; what was there is as it was -/
def GivesRow (E : TypeId) (k n : Nat) (cs : List Value) (w : World) (e : Ending) (w' : World) : Prop :=
  ∃ v, e = .returned v ∧ w'.ownsRow w.heap.size E k v n cs ∧ Below w.heap.size w w'

theorem own_base {w : World} {base base' : Nat} {e : TypeId} {k : Nat} {v : Value} {n : Nat} {cs : List Value} (h : w.ownsRow base e k v n cs) (hb : base' ≤ base) : w.ownsRow base' e k v n cs := by
  refine ⟨h.1, ?_⟩
  rcases h.2 with h0 | ⟨g, cap, cur, h1, h2, h3⟩
  · exact .inl h0
  · exact .inr ⟨g, cap, cur, h1, Nat.le_trans hb h2, h3⟩

/-- what a call owns is kept where everything that was there is kept -/
theorem own_below {w w' : World} {base : Nat} {e : TypeId} {k : Nat} {v : Value} {n : Nat} {cs : List Value} {B : Nat} (h : w.ownsRow base e k v n cs) (hb : Below B w w') (hB : w.heap.size ≤ B) : w'.ownsRow base e k v n cs := by
  refine ⟨h.1, ?_⟩
  rcases h.2 with h0 | ⟨g, cap, cur, h1, h2, h3, h4⟩
  · exact .inl h0
  · exact .inr ⟨g, cap, cur, h1, h2, by rw [hb.block g (Nat.lt_of_lt_of_le (lt_of_block h3) hB)]; exact h3, h4⟩

/-- the elements' cells, one after another -/
theorem flat_length {α : Type} (enc : α → List Value) (k : Nat) (hk : ∀ x, (enc x).length = k) (xs : List α) : (xs.flatMap enc).length = xs.length * k := by
  induction xs with
  | nil => simp
  | cons x xs ih => rw [List.flatMap_cons, List.length_append, ih, hk, List.length_cons, Nat.add_mul]; omega

theorem flat_get {α : Type} (enc : α → List Value) (k : Nat) (hk : ∀ x, (enc x).length = k) (xs : List α) (i j : Nat) (hi : i < xs.length) (hj : j < k) : (xs.flatMap enc)[i * k + j]? = (enc xs[i])[j]? := by
  induction xs generalizing i with
  | nil => simp at hi
  | cons x xs ih =>
    rw [List.flatMap_cons]
    cases i with
    | zero => rw [List.getElem?_append_left (by rw [hk]; omega)]; simp
    | succ i =>
      rw [List.getElem?_append_right (by rw [hk, Nat.succ_mul]; omega), hk]
      rw [show (i + 1) * k + j - k = i * k + j by rw [Nat.succ_mul]; omega]
      exact ih i (by simpa using hi)

/-- the cells of a block that has just been made -/
theorem cells_new (w : World) (cs : List Value) (t : TypeId) : ∀ j u, cs[j]? = some u → (w.alloc (.cells cs.toArray t)).cell? ((⟨w.heap.size, 0, none⟩ : Addr).add j) = some u := by
  intro j u hu
  have e : (⟨w.heap.size, 0, none⟩ : Addr).add j = ⟨w.heap.size, j, none⟩ := by unfold Addr.add; split <;> simp_all
  rw [e]
  simp [hu]

/-- one more element -/
theorem flat_take {α : Type} (enc : α → List Value) (xs : List α) (k : Nat) (hk : k < xs.length) : (xs.take (k + 1)).flatMap enc = (xs.take k).flatMap enc ++ enc xs[k] := by
  rw [List.take_succ_eq_append_getElem hk, List.flatMap_append]; simp

/-- the parts of an append: the new row, what was there, where the row lies -/
theorem own_step {w : World} {B : Nat} {wr w1 : World} {v : Value} {o : Obj} (hB : Below B w wr) (hw : B ≤ w.heap.size) (hg : (wr.alloc o).grownBy w1 v.ownBlock) (hv : ∀ k, v.ownBlock = some k → B ≤ k) : Below B w w1 :=
  (hB.alloc (by have := hB.size; omega) o).grown hg (by have := hB.size; simp; omega) hv

theorem own_step_drew {w : World} {B : Nat} {wr w1 : World} {v : Value} {o : Obj} (hB : Below B w wr) (hw : B ≤ w.heap.size) (hg : (wr.alloc o).drew.grownBy w1 v.ownBlock) (hv : ∀ k, v.ownBlock = some k → B ≤ k) : Below B w w1 :=
  ((hB.alloc (by have := hB.size; omega) o).drew).grown hg (by have := hB.size; simp; omega) hv

/-! ### only one row, and what is new, has turned -/
theorem only_refl (w : World) (g0 : Option Nat) : w.grownBy w g0 := ⟨rfl, rfl, rfl, Nat.le_refl _, fun _ _ _ => rfl⟩
theorem only_drew {w0 w : World} {g0 : Option Nat} (h : w0.grownBy w g0) : w0.grownBy w.drew g0 := ⟨h.os, h.tape, h.output, h.size, h.block⟩
theorem only_drewN {w0 w : World} {g0 : Option Nat} (h : w0.grownBy w g0) (n : Nat) : w0.grownBy (w.drewN n) g0 := ⟨h.os, h.tape, h.output, h.size, h.block⟩
theorem only_alloc {w0 w : World} {g0 : Option Nat} (h : w0.grownBy w g0) (o : Obj) : w0.grownBy (w.alloc o) g0 :=
  ⟨h.os, h.tape, h.output, Nat.le_trans h.size (by simp), fun i hi hne => (Below.heap_alloc w o i (Nat.lt_of_lt_of_le hi h.size)).trans (h.block i hi hne)⟩
theorem only_setCell {w0 w : World} {g : Nat} (h : w0.grownBy w (some g)) {p : Addr} (hp : p.block = g ∨ w0.heap.size ≤ p.block) (u : Value) : w0.grownBy (w.setCell p u) (some g) :=
  ⟨h.os, h.tape, h.output, by simpa [World.setCell] using h.size, fun i hi hne => (Below.heap_setCell w p u i (by
    rintro rfl
    rcases hp with hp | hp
    · exact hne (by rw [hp])
    · omega)).trans (h.block i hi hne)⟩
theorem only_trans {w0 w w1 : World} {g0 row : Option Nat} (h : w0.grownBy w g0) (hg : w.grownBy w1 row) (hv : ∀ g, row = some g → some g = g0 ∨ w0.heap.size ≤ g) : w0.grownBy w1 g0 :=
  ⟨hg.os.trans h.os, hg.tape.trans h.tape, hg.output.trans h.output, Nat.le_trans h.size hg.size, fun i hi hne => by
    refine (hg.block i (Nat.lt_of_lt_of_le hi h.size) (fun e => ?_)).trans (h.block i hi hne)
    rcases hv i e.symm with he | he
    · exact hne he
    · omega⟩
theorem only_below {w0 w w1 : World} {g0 : Option Nat} (h : w0.grownBy w g0) (hb : Below w.heap.size w w1) : w0.grownBy w1 g0 :=
  ⟨hb.os.trans h.os, hb.tape.trans h.tape, hb.output.trans h.output, Nat.le_trans h.size hb.size, fun i hi hne => (hb.block i (Nat.lt_of_lt_of_le hi h.size)).trans (h.block i hi hne)⟩
theorem only_step {w0 w w1 : World} {g0 : Option Nat} {v : Value} {o : Obj} (h : w0.grownBy w g0) (hv : ∀ g, v.ownBlock = some g → some g = g0 ∨ w0.heap.size ≤ g) (hg : (w.alloc o).grownBy w1 v.ownBlock) : w0.grownBy w1 g0 := only_trans (only_alloc h o) hg hv
theorem only_step_drew {w0 w w1 : World} {g0 : Option Nat} {v : Value} {o : Obj} (h : w0.grownBy w g0) (hv : ∀ g, v.ownBlock = some g → some g = g0 ∨ w0.heap.size ≤ g) (hg : (w.alloc o).drew.grownBy w1 v.ownBlock) : w0.grownBy w1 g0 := only_trans (only_drew (only_alloc h o)) hg hv
theorem only_at {w0 w : World} {g0 : Option Nat} {v : Value} {g n c : Nat} {H : Nat} (h : w0.grownBy w g0) (hv : ∀ g, v.ownBlock = some g → some g = g0 ∨ w0.heap.size ≤ g) (hat : v.ownBlock = some g ∨ g = H) (hH : w.heap.size ≤ H) :
    ∀ g', Value.ownBlock (.slice (some ⟨g, 0, none⟩) n c) = some g' → some g' = g0 ∨ w0.heap.size ≤ g' := by
  intro g' e
  obtain rfl : g = g' := by simpa [Value.ownBlock] using e
  rcases hat with hat | rfl
  · exact hv g hat
  · exact .inr (Nat.le_trans h.size hH)
theorem only_cell {w0 w : World} {g0 : Option Nat} (h : w0.grownBy w g0) {b : Nat} (hb : b < w0.heap.size) (hne : some b ≠ g0) (o : Nat) : w.cell? ⟨b, o, none⟩ = w0.cell? ⟨b, o, none⟩ := World.cell?_of_block (h.block b hb hne)
theorem below_only {w w0 wr : World} {B : Nat} {g0 : Option Nat} (hB : Below B w w0) (h : w0.grownBy wr g0) (h0 : B ≤ w0.heap.size) (hg : ∀ g, g0 = some g → B ≤ g) : Below B w wr :=
  hB.trans ⟨h.os, h.tape, h.output, h.size, fun k hk => h.block k (by omega) (fun e => by have := hg k e.symm; omega)⟩
theorem own_nil_at (g0 : Option Nat) (B : Nat) : ∀ g, Value.ownBlock (.slice none 0 0) = some g → some g = g0 ∨ B ≤ g := by
  intro g e
  simp [Value.ownBlock] at e
theorem own_at (g B n c : Nat) : ∀ g', Value.ownBlock (.slice (some ⟨g, 0, none⟩) n c) = some g' → some g' = some g ∨ B ≤ g' := by
  intro g' e
  simp [Value.ownBlock] at e
  exact .inl (by rw [e])

/-- a row of the call's own is a slice of its length -/
theorem slice_form {w : World} {base : Nat} {e : TypeId} {k : Nat} {v : Value} {n : Nat} {cs : List Value} (h : w.ownsRow base e k v n cs) : ∃ a c, v = .slice a n c := by
  rcases h.2 with ⟨rfl, rfl⟩ | ⟨g, cap, cur, rfl, _⟩
  · exact ⟨_, _, rfl⟩
  · exact ⟨_, _, rfl⟩

end Go.Proofs.YtpollgibgphipaaDoor.Row
