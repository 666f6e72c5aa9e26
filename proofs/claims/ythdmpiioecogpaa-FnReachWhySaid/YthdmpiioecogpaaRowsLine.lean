/-
  Contracts of the laws' helpers on slices of Line: copies, comparison, marks.
-/
import Derived.Test.YthdmpiioecogpaaLine
import Derived.WalkSpells
import Derived.RegionTactic
namespace Go.Proofs.Ythdmpiioecogpaa.RowsLine
open Go.RowKit Go.Proofs.Ythdmpiioecogpaa.Spin Go.Proofs.Ythdmpiioecogpaa.Row Go.Proofs.Ythdmpiioecogpaa.Plain Go.Proofs.Ythdmpiioecogpaa.Later Go.Proofs.Ythdmpiioecogpaa.Line
set_option linter.unusedVariables false
set_option linter.unusedSimpArgs false

theorem at_Line {w : World} {xs : List Ln} {b o : Nat} (hcell : ∀ j, j < xs.length * 3 → w.cell? ⟨b, o + j, none⟩ = (xs.flatMap encLn)[j]?) (i : Nat) (hi : i < xs.length) : w.cell? ⟨b, o + i * 3, none⟩ = some (.int .i64 (xs[i].u : Int)) ∧ w.cell? ⟨b, o + i * 3 + 1, none⟩ = some (.int .i64 (xs[i].l : Int)) ∧ w.cell? ⟨b, o + i * 3 + 2, none⟩ = some (.int .i64 xs[i].n) := by
  have g := fun j (hj : j < 3) => (hcell (i * 3 + j) (by omega)).trans (flat_get encLn 3 encLn_len xs i j hi hj)
  skip
  exact ⟨g 0 (by omega), g 1 (by omega), g 2 (by omega)⟩

set_option maxRecDepth 100000 in
set_option maxHeartbeats 1000000 in
theorem sameLines (xs : List Ln) (u v : Value) (w : World) (hu : Sees w 3 u xs.length (xs.flatMap encLn)) (hv : Sees w 3 v xs.length (xs.flatMap encLn)) :
    Calls Try.prog 21 #[u, v] w (Gives (.bool true) w) := by
  obtain ⟨n, hn⟩ : ∃ n, n = xs.length := ⟨_, rfl⟩
  have HN := Lib.hid hn
  rw [← hn] at hu hv
  clear hn
  rcases hu.2 with ⟨rfl, a, c, rfl⟩ | ⟨b, o, c, rfl, hnc, hcm, hb, hcell⟩
  · rcases hv.2 with ⟨_, a', c', rfl⟩ | ⟨b', o', c', rfl, hnc', hcm', hb', hcell'⟩
    · clear hu hv
      go_enter Try.func21, Try.ntmps21
      go_wp2
      go_loopw [5] (fun i wr => i = .int .i64 0 ∧ wr = w) (fun _ _ => 0)
      case atStart => exact ⟨rfl, rfl⟩
      case round =>
        obtain ⟨rfl, rfl⟩ := hrel
        go_wp2
        go_ret
        exact ⟨rfl, Below.refl _ _⟩
    · clear hu hv hcell'
      go_enter Try.func21, Try.ntmps21
      go_wp2
      go_loopw [5] (fun i wr => i = .int .i64 0 ∧ wr = w) (fun _ _ => 0)
      case atStart => exact ⟨rfl, rfl⟩
      case round =>
        obtain ⟨rfl, rfl⟩ := hrel
        go_wp2
        go_ret
        exact ⟨rfl, Below.refl _ _⟩
  · rcases hv.2 with ⟨h0, a', c', rfl⟩ | ⟨b', o', c', rfl, hnc', hcm', hb', hcell'⟩
    · subst h0
      clear hu hv hcell
      go_enter Try.func21, Try.ntmps21
      go_wp2
      go_loopw [5] (fun i wr => i = .int .i64 0 ∧ wr = w) (fun _ _ => 0)
      case atStart => exact ⟨rfl, rfl⟩
      case round =>
        obtain ⟨rfl, rfl⟩ := hrel
        go_wp2
        go_ret
        exact ⟨rfl, Below.refl _ _⟩
    · have HC := Lib.hid hcell
      have HC' := Lib.hid hcell'
      unfold maxLen at hcm hcm'
      clear hu hv hcell hcell'
      go_enter Try.func21, Try.ntmps21
      go_wp2
      go_loopw [5] (fun i wr => ∃ k q : Nat, k ≤ n ∧ i = .int .i64 k ∧ wr = w.drewN q) (fun i _ => n - (intOf i).toNat)
      case atStart => exact ⟨0, 0, by omega, rfl, rfl⟩
      case round =>
        obtain ⟨k, q, hk, rfl, rfl⟩ := hrel
        by_cases hlt : k < n
        · have hkl : k < xs.length := by have := HN.out; omega
          obtain ⟨u0, u1, u2⟩ := at_Line (xs := xs) (b := b) (o := o) (w := w) (fun j hj => HC.out j (by have := HN.out; omega)) k hkl
          obtain ⟨v0, v1, v2⟩ := at_Line (xs := xs) (b := b') (o := o') (w := w) (fun j hj => HC'.out j (by have := HN.out; omega)) k hkl
          generalize xs[k] = x at *
          have hk0 : (0 : Int) ≤ (k : Int) := Int.natCast_nonneg _
          have hk1 : (k : Int) < (n : Int) := by omega
          go_wp2
          go_quiet (fail)
          go_wp2
          go_roundw
          case rel => exact ⟨k + 1, _, by omega, by go_num, rfl⟩
          case measure => simp [intOf]; omega
        · go_wp2
          go_ret
          exact ⟨rfl, below_drewN (Below.refl _ _) _⟩




end Go.Proofs.Ythdmpiioecogpaa.RowsLine
