/-
  Arguments that are slices of structs: what their cells are.
-/
import Derived.Test.YtpollgibgphipaaDoorRow
import Derived.Test.YtpollgibgphipaaDoorOpen
import Derived.Deep.Slices
import Derived.Deep.Fields
import Derived.ChangeSame
namespace Go.Proofs.YtpollgibgphipaaDoor.Open
open Go.ChangeShapes Go.WideShapes Go.Deep Go.RowKit Go.Proofs.YtpollgibgphipaaDoor.Row
set_option linter.unusedVariables false
set_option linter.unusedSimpArgs false

theorem open_rows {H : Type} {enc : TypeId × Value → H} {P : Program} {w : World} {base : Nat} {spare : Nat → Bool} {held : Bool} {t e : TypeId} {α : Type} [Inhabited α] (encX : α → List Value) (k : Nat) (Q : α → Prop) (hk : ∀ x, (encX x).length = k) (hk0 : 0 < k) (ht : P.underlying t = some (.slice e)) (hC : P.cellsOf e = k)
    (hop : ∀ (fuel : Nat) (cs : List Value) (x : DataW H × List MemPlace), DataW.trod enc P w base spare held fuel e cs = some x → ∃ y, cs = encX y ∧ Q y)
    {a : Option Addr} {len cap : Nat} {d : DataW H} {p : List MemPlace} (h : DataW.Trod enc P w base spare held t (.slice a len cap) d p) :
    ∃ xs : List α, Sees w k (.slice a len cap) xs.length (xs.flatMap encX) ∧ len = xs.length ∧ ∀ x ∈ xs, Q x := by
  obtain ⟨fuel, hf⟩ := h
  rcases open_slice ht hf with ⟨hcs, _⟩ | ⟨a', len', cap', m, n, D, Pl, hcs, hb, hl, hm, hmm, _, hi⟩
  · simp [Value.cells] at hcs
    obtain ⟨rfl, rfl, rfl⟩ := hcs
    exact ⟨[], ⟨by simp, .inl ⟨rfl, none, 0, rfl⟩⟩, rfl, by simp⟩
  · simp [Value.cells] at hcs
    obtain ⟨rfl, rfl, rfl⟩ := hcs
    have hlm : len ≤ m := by rw [hmm]; split <;> omega
    have hex : ∀ i, i < len → ∃ y : α, w.cells? base (a'.add (i * k)) k = some (encX y) ∧ Q y := by
      intro i hil
      obtain ⟨cs', h1, h2⟩ := hi i (by omega)
      rw [hC] at h1
      obtain ⟨y, rfl, hq⟩ := hop _ _ _ h2
      exact ⟨y, h1, hq⟩
    obtain ⟨f, hff⟩ := choose_lt hex
    have hlen : ((List.range len).map f).length = len := by simp
    refine ⟨(List.range len).map f, ?_, hlen.symm, ?_⟩
    · refine ⟨by rw [flat_length encX k hk], ?_⟩
      rw [hlen]
      by_cases h0 : len = 0
      · subst h0
        exact .inl ⟨rfl, _, _, rfl⟩
      · have cell : ∀ i j, i < len → j < k → w.cell? ((a'.add (i * k)).add j) = (encX (f i))[j]? := fun i j h1 h2 => (World.cells?_some (hff i h1).1).2.2 j h2
        obtain ⟨b, off, spot⟩ := a'
        have c0 := cell 0 0 (by omega) hk0
        rw [add_add] at c0
        have hsome : ∃ v, (encX (f 0))[0]? = some v := ⟨_, List.getElem?_eq_getElem (by rw [hk]; exact hk0)⟩
        obtain ⟨v, hv⟩ := hsome
        rw [hv] at c0
        have hspot : spot = none := by simpa [Addr.add] using World.cell?_spot c0
        subst hspot
        refine .inr ⟨b, off, cap, rfl, hl, hm, ?_, ?_⟩
        · have := World.block_lt_of_cell? _ _ c0
          simpa [Addr.add] using this
        · intro j hj
          have hjk : j / k < len := Nat.div_lt_of_lt_mul (by rw [Nat.mul_comm]; exact hj)
          have hjm : j % k < k := Nat.mod_lt _ hk0
          have e : j / k * k + j % k = j := by rw [Nat.mul_comm]; exact Nat.div_add_mod j k
          have c := cell (j / k) (j % k) hjk hjm
          rw [add_add, e, Go.WideShapes.add_plain] at c
          rw [c]
          have g := flat_get encX k hk ((List.range len).map f) (j / k) (j % k) (by simpa using hjk) hjm
          rw [e] at g
          rw [g]
          simp
    · intro x hx
      obtain ⟨i, hi', rfl⟩ := List.mem_map.1 hx
      exact (hff i (List.mem_range.1 hi')).2

end Go.Proofs.YtpollgibgphipaaDoor.Open
