/-
  Contracts of the laws' helpers on slices of Split: copies, comparison, marks.
-/
import Derived.Test.YtpollgibgphipaaDoorSplitDef
import Derived.WalkSpells
import Derived.RegionTactic
namespace Go.Proofs.YtpollgibgphipaaDoor.RowsSplit
open Go.RowKit Go.Proofs.YtpollgibgphipaaDoor.Spin Go.Proofs.YtpollgibgphipaaDoor.Row Go.Proofs.YtpollgibgphipaaDoor.SplitPlain Go.Proofs.YtpollgibgphipaaDoor.Later Go.Proofs.YtpollgibgphipaaDoor.SplitDef
set_option linter.unusedVariables false
set_option linter.unusedSimpArgs false

theorem at_Split {w : World} {xs : List Sp} {b o : Nat} (hcell : ∀ j, j < xs.length * 6 → w.cell? ⟨b, o + j, none⟩ = (xs.flatMap encSp)[j]?) (i : Nat) (hi : i < xs.length) : w.cell? ⟨b, o + i * 6, none⟩ = some (.int .i64 xs[i].u) ∧ w.cell? ⟨b, o + i * 6 + 1, none⟩ = some (.int .i64 xs[i].l) ∧ w.cell? ⟨b, o + i * 6 + 2, none⟩ = some (.int .i64 xs[i].p) ∧ w.cell? ⟨b, o + i * 6 + 3, none⟩ = some (.int .i64 xs[i].q) ∧ w.cell? ⟨b, o + i * 6 + 4, none⟩ = some (.int .i64 xs[i].s) ∧ w.cell? ⟨b, o + i * 6 + 5, none⟩ = some (.int .i64 xs[i].t) := by
  have g := fun j (hj : j < 6) => (hcell (i * 6 + j) (by omega)).trans (flat_get encSp 6 encSp_len xs i j hi hj)
  skip
  exact ⟨g 0 (by omega), g 1 (by omega), g 2 (by omega), g 3 (by omega), g 4 (by omega), g 5 (by omega)⟩

set_option maxRecDepth 100000 in
set_option maxHeartbeats 1000000 in
theorem sameSplits (xs : List Sp) (u v : Value) (w : World) (hu : Sees w 6 u xs.length (xs.flatMap encSp)) (hv : Sees w 6 v xs.length (xs.flatMap encSp)) :
    Calls Tryd.prog 11 #[u, v] w (Gives (.bool true) w) := by
  obtain ⟨n, hn⟩ : ∃ n, n = xs.length := ⟨_, rfl⟩
  have HN := Lib.hid hn
  rw [← hn] at hu hv
  clear hn
  rcases hu.2 with ⟨rfl, a, c, rfl⟩ | ⟨b, o, c, rfl, hnc, hcm, hb, hcell⟩
  · rcases hv.2 with ⟨_, a', c', rfl⟩ | ⟨b', o', c', rfl, hnc', hcm', hb', hcell'⟩
    · clear hu hv
      go_enter Tryd.func11, Tryd.ntmps11
      go_wp2
      go_loopw [5] (fun i wr => i = .int .i64 0 ∧ wr = w) (fun _ _ => 0)
      case atStart => exact ⟨rfl, rfl⟩
      case round =>
        obtain ⟨rfl, rfl⟩ := hrel
        go_wp2
        go_ret
        exact ⟨rfl, Below.refl _ _⟩
    · clear hu hv hcell'
      go_enter Tryd.func11, Tryd.ntmps11
      go_wp2
      go_loopw [5] (fun i wr => i = .int .i64 0 ∧ wr = w) (fun _ _ => 0)
      case atStart => exact ⟨rfl, rfl⟩
      case round =>
        obtain ⟨rfl, rfl⟩ := hrel
        go_wp2
        go_ret
        exact ⟨rfl, Below.refl _ _⟩
  · rcases hv.2 with ⟨h0, a', c', rfl⟩ | ⟨b', o', c', rfl, hnc', hcm', hb', hcell'⟩
    · subst h0
      clear hu hv hcell
      go_enter Tryd.func11, Tryd.ntmps11
      go_wp2
      go_loopw [5] (fun i wr => i = .int .i64 0 ∧ wr = w) (fun _ _ => 0)
      case atStart => exact ⟨rfl, rfl⟩
      case round =>
        obtain ⟨rfl, rfl⟩ := hrel
        go_wp2
        go_ret
        exact ⟨rfl, Below.refl _ _⟩
    · have HC := Lib.hid hcell
      have HC' := Lib.hid hcell'
      unfold maxLen at hcm hcm'
      clear hu hv hcell hcell'
      go_enter Tryd.func11, Tryd.ntmps11
      go_wp2
      go_loopw [5] (fun i wr => ∃ k q : Nat, k ≤ n ∧ i = .int .i64 k ∧ wr = w.drewN q) (fun i _ => n - (intOf i).toNat)
      case atStart => exact ⟨0, 0, by omega, rfl, rfl⟩
      case round =>
        obtain ⟨k, q, hk, rfl, rfl⟩ := hrel
        by_cases hlt : k < n
        · have hkl : k < xs.length := by have := HN.out; omega
          obtain ⟨u0, u1, u2, u3, u4, u5⟩ := at_Split (xs := xs) (b := b) (o := o) (w := w) (fun j hj => HC.out j (by have := HN.out; omega)) k hkl
          obtain ⟨v0, v1, v2, v3, v4, v5⟩ := at_Split (xs := xs) (b := b') (o := o') (w := w) (fun j hj => HC'.out j (by have := HN.out; omega)) k hkl
          generalize xs[k] = x at *
          have hk0 : (0 : Int) ≤ (k : Int) := Int.natCast_nonneg _
          have hk1 : (k : Int) < (n : Int) := by omega
          go_wp2
          go_quiet (fail)
          go_wp2
          go_roundw
          case rel => exact ⟨k + 1, _, by omega, by go_num, rfl⟩
          case measure => simp [intOf]; omega
        · go_wp2
          go_ret
          exact ⟨rfl, below_drewN (Below.refl _ _) _⟩




theorem infoSplit : (Tryd.prog.info? 40).map (fun i => (i.zero, i.size, i.bytes)) = some (some (.agg #[.int .i64 0, .int .i64 0, .int .i64 0, .int .i64 0, .int .i64 0, .int .i64 0]), 6, 48) := by kernel_rfl

end Go.Proofs.YtpollgibgphipaaDoor.RowsSplit
