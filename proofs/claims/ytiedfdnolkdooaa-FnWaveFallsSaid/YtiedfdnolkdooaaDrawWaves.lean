/-
  The draws of wave numbers and wavelengths return some integer of a bounded size and change nothing that was there.
-/
import Derived.Test.YtiedfdnolkdooaaRd
namespace Go.Proofs.Ytiedfdnolkdooaa.DrawWaves
open Go.RowKit Go.Proofs.Ytiedfdnolkdooaa.Rd

/-- an integer in bounds is returned; what was there is as it was -/
def SomeInt (lo hi : Int) (w : World) (e : Ending) (w' : World) : Prop := ∃ v, lo ≤ v ∧ v ≤ hi ∧ e = .returned (.int .i64 v) ∧ Below w.heap.size w w'

set_option maxHeartbeats 1000000 in
theorem drawNumberOf (a : Option Addr) (n c : Nat) (zs : List Int) (w : World) (h : IsRow .u8 w a n c zs) :
    Calls Try.prog 13 #[.slice a n c] w (SomeInt 0 100000000001 w) := by
  have HO := Lib.hid (open_any a n c zs w h)
  clear h
  go_enter Try.func13, Try.ntmps13
  go_wp2_with fail
  refine HO.out.mono ?_
  rintro e w1 ⟨rfl, b1, s1, r1⟩
  have S1 := Lib.hid s1; clear s1
  go_wp2_with fail
  with_reducible refine (pick_any _ _ _ _ r1 (by omega) (by omega)).mono ?_
  rintro e w2 ⟨v, v0, v1, rfl, m2⟩
  have b2 := b1.trans (m2.below (Nat.le_refl _))
  have r2 := m2.rd
  clear m2 b1 r1
  go_wp2_with fail
  · have r3 := r2.alloc (.cells #[.int .i64 0, .int .i64 499999, .int .i64 500000, .int .i64 100000000000, .int .i64 100000000001] 3)
    with_reducible refine (pick_any _ _ _ _ r3 (by omega) (by omega)).mono ?_
    rintro e w4 ⟨u, u0, u1, rfl, m4⟩
    have lt2 := r2.lt
    have b4 := (b2.alloc (by omega) _).trans (m4.below (Nat.le_refl _))
    have c4 : ∀ o, w4.cell? ⟨w2.heap.size, o, none⟩ = (w2.alloc (.cells #[.int .i64 0, .int .i64 499999, .int .i64 500000, .int .i64 100000000000, .int .i64 100000000001] 3)).cell? ⟨w2.heap.size, o, none⟩ := fun o => m4.cell (by omega) o
    clear m4 r3 r2 b2
    have hu : u = 0 ∨ u = 1 ∨ u = 2 ∨ u = 3 ∨ u = 4 := by omega
    clear u0 u1
    rcases hu with rfl | rfl | rfl | rfl | rfl <;> (go_wp2; go_ret; exact ⟨_, by decide, by decide, rfl, b4⟩)
  · with_reducible refine (pick_any _ _ _ _ r2 (by omega) (by omega)).mono ?_
    rintro e w4 ⟨u, u0, u1, rfl, m4⟩
    have b4 := b2.trans (m4.below (Nat.le_refl _))
    clear m4 r2 b2
    go_wp2
    go_ret
    exact ⟨_, Int.ediv_nonneg (by omega) (by omega), Int.le_trans (Int.ediv_le_self _ (by omega)) (by omega), rfl, b4⟩
  · with_reducible refine (pick_any _ _ _ _ r2 (by omega) (by omega)).mono ?_
    rintro e w4 ⟨u, u0, u1, rfl, m4⟩
    have b4 := b2.trans (m4.below (Nat.le_refl _))
    have r4 := m4.rd
    clear m4 r2 b2
    go_wp2_with fail
    with_reducible refine (pick_any _ _ _ _ r4 (by omega) (by omega)).mono ?_
    rintro e w5 ⟨t, t0, t1, rfl, m5⟩
    have b5 := b4.trans (m5.below (Nat.le_refl _))
    clear m5 r4 b4
    go_wp2
    go_ret
    exact ⟨_, by omega, by omega, rfl, b5⟩

set_option maxHeartbeats 1000000 in
theorem drawWaveOf (a : Option Addr) (n c : Nat) (zs : List Int) (w : World) (h : IsRow .u8 w a n c zs) :
    Calls Try.prog 14 #[.slice a n c] w (SomeInt (-1) 200001 w) := by
  have HO := Lib.hid (open_any a n c zs w h)
  clear h
  go_enter Try.func14, Try.ntmps14
  go_wp2_with fail
  refine HO.out.mono ?_
  rintro e w1 ⟨rfl, b1, s1, r1⟩
  have S1 := Lib.hid s1; clear s1
  go_wp2_with fail
  with_reducible refine (pick_any _ _ _ _ r1 (by omega) (by omega)).mono ?_
  rintro e w2 ⟨v, v0, v1, rfl, m2⟩
  have b2 := b1.trans (m2.below (Nat.le_refl _))
  have r2 := m2.rd
  clear m2 b1 r1
  go_wp2_with fail
  · have r3 := r2.alloc (.cells #[.int .i64 0, .int .i64 (-1), .int .i64 1, .int .i64 2, .int .i64 200000, .int .i64 200001] 3)
    with_reducible refine (pick_any _ _ _ _ r3 (by omega) (by omega)).mono ?_
    rintro e w4 ⟨u, u0, u1, rfl, m4⟩
    have lt2 := r2.lt
    have b4 := (b2.alloc (by omega) _).trans (m4.below (Nat.le_refl _))
    have c4 : ∀ o, w4.cell? ⟨w2.heap.size, o, none⟩ = (w2.alloc (.cells #[.int .i64 0, .int .i64 (-1), .int .i64 1, .int .i64 2, .int .i64 200000, .int .i64 200001] 3)).cell? ⟨w2.heap.size, o, none⟩ := fun o => m4.cell (by omega) o
    clear m4 r3 r2 b2
    have hu : u = 0 ∨ u = 1 ∨ u = 2 ∨ u = 3 ∨ u = 4 ∨ u = 5 := by omega
    clear u0 u1
    rcases hu with rfl | rfl | rfl | rfl | rfl | rfl <;> (go_wp2; go_ret; exact ⟨_, by decide, by decide, rfl, b4⟩)
  · with_reducible refine (pick_any _ _ _ _ r2 (by omega) (by omega)).mono ?_
    rintro e w4 ⟨u, u0, u1, rfl, m4⟩
    have b4 := b2.trans (m4.below (Nat.le_refl _))
    clear m4 r2 b2
    go_wp2
    go_ret
    exact ⟨_, by omega, by omega, rfl, b4⟩
  · with_reducible refine (pick_any _ _ _ _ r2 (by omega) (by omega)).mono ?_
    rintro e w4 ⟨u, u0, u1, rfl, m4⟩
    have b4 := b2.trans (m4.below (Nat.le_refl _))
    have r4 := m4.rd
    clear m4 r2 b2
    go_wp2_with fail
    with_reducible refine (pick_any _ _ _ _ r4 (by omega) (by omega)).mono ?_
    rintro e w5 ⟨t, t0, t1, rfl, m5⟩
    have b5 := b4.trans (m5.below (Nat.le_refl _))
    clear m5 r4 b4
    go_wp2
    go_ret
    exact ⟨_, by omega, by omega, rfl, b5⟩

end Go.Proofs.Ytiedfdnolkdooaa.DrawWaves
