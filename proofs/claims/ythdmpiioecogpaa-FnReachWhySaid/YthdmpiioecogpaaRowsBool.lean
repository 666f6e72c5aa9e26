/-
  Contracts of the laws' helpers on slices of Bool: copies, comparison, marks.
-/
import Derived.Test.YthdmpiioecogpaaLater
import Derived.WalkSpells
import Derived.RegionTactic
namespace Go.Proofs.Ythdmpiioecogpaa.RowsBool
open Go.RowKit Go.Proofs.Ythdmpiioecogpaa.Spin Go.Proofs.Ythdmpiioecogpaa.Row Go.Proofs.Ythdmpiioecogpaa.Later
set_option linter.unusedVariables false
set_option linter.unusedSimpArgs false

def encB (x : Bool) : List Value := [.bool x]
theorem encB_len (x : Bool) : (encB x).length = 1 := rfl

theorem at_Bool {w : World} {xs : List Bool} {b o : Nat} (hcell : ∀ j, j < xs.length * 1 → w.cell? ⟨b, o + j, none⟩ = (xs.flatMap encB)[j]?) (i : Nat) (hi : i < xs.length) : w.cell? ⟨b, o + i, none⟩ = some (.bool xs[i]) := by
  have g := fun j (hj : j < 1) => (hcell (i * 1 + j) (by omega)).trans (flat_get encB 1 encB_len xs i j hi hj)
  simp only [Nat.mul_one] at g
  exact g 0 (by omega)

set_option maxRecDepth 100000 in
set_option maxHeartbeats 1000000 in
theorem sameFlags (xs : List Bool) (u v : Value) (w : World) (hu : Sees w 1 u xs.length (xs.flatMap encB)) (hv : Sees w 1 v xs.length (xs.flatMap encB)) :
    Calls Try.prog 16 #[u, v] w (Gives (.bool true) w) := by
  obtain ⟨n, hn⟩ : ∃ n, n = xs.length := ⟨_, rfl⟩
  have HN := Lib.hid hn
  rw [← hn] at hu hv
  clear hn
  rcases hu.2 with ⟨rfl, a, c, rfl⟩ | ⟨b, o, c, rfl, hnc, hcm, hb, hcell⟩
  · rcases hv.2 with ⟨_, a', c', rfl⟩ | ⟨b', o', c', rfl, hnc', hcm', hb', hcell'⟩
    · clear hu hv
      go_enter Try.func16, Try.ntmps16
      go_wp2
      go_loopw [5] (fun i wr => i = .int .i64 0 ∧ wr = w) (fun _ _ => 0)
      case atStart => exact ⟨rfl, rfl⟩
      case round =>
        obtain ⟨rfl, rfl⟩ := hrel
        go_wp2
        go_ret
        exact ⟨rfl, Below.refl _ _⟩
    · clear hu hv hcell'
      go_enter Try.func16, Try.ntmps16
      go_wp2
      go_loopw [5] (fun i wr => i = .int .i64 0 ∧ wr = w) (fun _ _ => 0)
      case atStart => exact ⟨rfl, rfl⟩
      case round =>
        obtain ⟨rfl, rfl⟩ := hrel
        go_wp2
        go_ret
        exact ⟨rfl, Below.refl _ _⟩
  · rcases hv.2 with ⟨h0, a', c', rfl⟩ | ⟨b', o', c', rfl, hnc', hcm', hb', hcell'⟩
    · subst h0
      clear hu hv hcell
      go_enter Try.func16, Try.ntmps16
      go_wp2
      go_loopw [5] (fun i wr => i = .int .i64 0 ∧ wr = w) (fun _ _ => 0)
      case atStart => exact ⟨rfl, rfl⟩
      case round =>
        obtain ⟨rfl, rfl⟩ := hrel
        go_wp2
        go_ret
        exact ⟨rfl, Below.refl _ _⟩
    · have HC := Lib.hid hcell
      have HC' := Lib.hid hcell'
      unfold maxLen at hcm hcm'
      clear hu hv hcell hcell'
      go_enter Try.func16, Try.ntmps16
      go_wp2
      go_loopw [5] (fun i wr => ∃ k q : Nat, k ≤ n ∧ i = .int .i64 k ∧ wr = w.drewN q) (fun i _ => n - (intOf i).toNat)
      case atStart => exact ⟨0, 0, by omega, rfl, rfl⟩
      case round =>
        obtain ⟨k, q, hk, rfl, rfl⟩ := hrel
        by_cases hlt : k < n
        · have hkl : k < xs.length := by have := HN.out; omega
          obtain u0 := at_Bool (xs := xs) (b := b) (o := o) (w := w) (fun j hj => HC.out j (by have := HN.out; omega)) k hkl
          obtain v0 := at_Bool (xs := xs) (b := b') (o := o') (w := w) (fun j hj => HC'.out j (by have := HN.out; omega)) k hkl
          generalize xs[k] = x at *
          have hk0 : (0 : Int) ≤ (k : Int) := Int.natCast_nonneg _
          have hk1 : (k : Int) < (n : Int) := by omega
          go_wp2
          go_quiet (fail)
          go_wp2
          go_roundw
          case rel => exact ⟨k + 1, _, by omega, by go_num, rfl⟩
          case measure => simp [intOf]; omega
        · go_wp2
          go_ret
          exact ⟨rfl, below_drewN (Below.refl _ _) _⟩

set_option maxRecDepth 100000 in
set_option maxHeartbeats 1000000 in
theorem eqBoolS (xs : List Bool) (u v : Value) (w : World) (hu : Sees w 1 u xs.length (xs.flatMap encB)) (hv : Sees w 1 v xs.length (xs.flatMap encB)) :
    Calls Try.prog 28 #[u, v] w (Gives (.bool true) w) := by
  obtain ⟨n, hn⟩ : ∃ n, n = xs.length := ⟨_, rfl⟩
  have HN := Lib.hid hn
  rw [← hn] at hu hv
  clear hn
  rcases hu.2 with ⟨rfl, a, c, rfl⟩ | ⟨b, o, c, rfl, hnc, hcm, hb, hcell⟩
  · rcases hv.2 with ⟨_, a', c', rfl⟩ | ⟨b', o', c', rfl, hnc', hcm', hb', hcell'⟩
    · clear hu hv
      go_enter Try.func28, Try.ntmps28
      go_wp2
      go_loopw [5] (fun i wr => i = .int .i64 0 ∧ wr = w) (fun _ _ => 0)
      case atStart => exact ⟨rfl, rfl⟩
      case round =>
        obtain ⟨rfl, rfl⟩ := hrel
        go_wp2
        go_ret
        exact ⟨rfl, Below.refl _ _⟩
    · clear hu hv hcell'
      go_enter Try.func28, Try.ntmps28
      go_wp2
      go_loopw [5] (fun i wr => i = .int .i64 0 ∧ wr = w) (fun _ _ => 0)
      case atStart => exact ⟨rfl, rfl⟩
      case round =>
        obtain ⟨rfl, rfl⟩ := hrel
        go_wp2
        go_ret
        exact ⟨rfl, Below.refl _ _⟩
  · rcases hv.2 with ⟨h0, a', c', rfl⟩ | ⟨b', o', c', rfl, hnc', hcm', hb', hcell'⟩
    · subst h0
      clear hu hv hcell
      go_enter Try.func28, Try.ntmps28
      go_wp2
      go_loopw [5] (fun i wr => i = .int .i64 0 ∧ wr = w) (fun _ _ => 0)
      case atStart => exact ⟨rfl, rfl⟩
      case round =>
        obtain ⟨rfl, rfl⟩ := hrel
        go_wp2
        go_ret
        exact ⟨rfl, Below.refl _ _⟩
    · have HC := Lib.hid hcell
      have HC' := Lib.hid hcell'
      unfold maxLen at hcm hcm'
      clear hu hv hcell hcell'
      go_enter Try.func28, Try.ntmps28
      go_wp2
      go_loopw [5] (fun i wr => ∃ k q : Nat, k ≤ n ∧ i = .int .i64 k ∧ wr = w.drewN q) (fun i _ => n - (intOf i).toNat)
      case atStart => exact ⟨0, 0, by omega, rfl, rfl⟩
      case round =>
        obtain ⟨k, q, hk, rfl, rfl⟩ := hrel
        by_cases hlt : k < n
        · have hkl : k < xs.length := by have := HN.out; omega
          obtain u0 := at_Bool (xs := xs) (b := b) (o := o) (w := w) (fun j hj => HC.out j (by have := HN.out; omega)) k hkl
          obtain v0 := at_Bool (xs := xs) (b := b') (o := o') (w := w) (fun j hj => HC'.out j (by have := HN.out; omega)) k hkl
          generalize xs[k] = x at *
          have hk0 : (0 : Int) ≤ (k : Int) := Int.natCast_nonneg _
          have hk1 : (k : Int) < (n : Int) := by omega
          go_wp2
          go_quiet (fail)
          go_wp2
          go_roundw
          case rel => exact ⟨k + 1, _, by omega, by go_num, rfl⟩
          case measure => simp [intOf]; omega
        · go_wp2
          go_ret
          exact ⟨rfl, below_drewN (Below.refl _ _) _⟩

/-- the marks of the i-th element -/
def mark (k : Int) (i : Nat) : List Value := [.bool ((k + (i : Int)) % 3 == 0)]
def marks (k : Int) (n : Nat) : List Value := (List.range n).flatMap (mark k)
theorem marks_len (k : Int) (n : Nat) : (marks k n).length = n := by unfold marks; rw [flat_length (mark k) 1 (fun _ => rfl)]; simp
theorem marks_succ (k : Int) (n : Nat) : marks k (n + 1) = marks k n ++ mark k n := by simp [marks, List.range_succ]
theorem dropK {cs : List Value} {m n : Nat} (hl : cs.length = n * 1) (hm : m < n) : ∃ c0, cs.drop (m) = c0 :: cs.drop ((m + 1)) := by
  refine ⟨cs[m]'(by omega), ?_⟩
  rw [List.drop_eq_getElem_cons (by omega)]
  skip
theorem setK {p r : List Value} {a0 c0 : Value} {i : Nat} (hp : p.length = i) : (p ++ c0 :: r).set (i) a0 = (p ++ [a0]) ++ r := by
  subst hp
  simp

/-- marks fill the row; only the row has turned -/
def Marked (base : Nat) (E : TypeId) (v : Value) (n : Nat) (k : Int) (w : World) (e : Ending) (w' : World) : Prop :=
  e = .returned (.int .i64 (k + (n : Int))) ∧ w'.ownsRow base E 1 v n (marks k n) ∧ w.grownBy w' v.ownBlock

set_option maxRecDepth 100000 in
set_option maxHeartbeats 1000000 in
theorem markBoolS (base : Nat) (v : Value) (n : Nat) (cs : List Value) (k : Int) (w : World) (hown : w.ownsRow base 4 1 v n cs) (hn : n ≤ 2000000) (k0 : 0 ≤ k) (k1 : k ≤ 1000000) :
    Calls Try.prog 31 #[v, .int .i64 k] w (Marked base 4 v n k w) := by
  have hl := hown.1
  rcases hown.2 with ⟨rfl, rfl⟩ | ⟨g, c, cur, rfl, hbg, hg, hnc, hcm, hcs, htake⟩
  · have HO := Lib.hid hown
    clear hown hl
    go_enter Try.func31, Try.ntmps31
    go_wp2
    go_loopw [1, 5] (fun kk i wr => kk = .int .i64 k ∧ i = .int .i64 0 ∧ wr = w) (fun _ _ _ => 0)
    case atStart => exact ⟨rfl, rfl, rfl⟩
    case round =>
      obtain ⟨rfl, rfl, rfl⟩ := hrel
      go_wp2
      go_ret
      exact ⟨ret_int (by simp), World.ownsRow_nil _ _ _ _, only_refl _ _⟩
  · have HO := Lib.hid hown
    have HL := Lib.hid hl
    unfold maxLen at hcm
    clear hg htake hcs hown hl
    go_enter Try.func31, Try.ntmps31
    go_wp2
    go_loopw [1, 5] (fun kk i wr => ∃ m : Nat, m ≤ n ∧ i = .int .i64 m ∧ kk = .int .i64 (k + (m : Int)) ∧ wr.ownsRow base 4 1 (.slice (some ⟨g, 0, none⟩) n c) n (marks k m ++ cs.drop (m)) ∧ w.grownBy wr (some g)) (fun _ i _ => n - (intOf i).toNat)
    case atStart => exact ⟨0, by omega, rfl, by simp, by simpa [marks] using HO.out, only_refl _ _⟩
    case round =>
      obtain ⟨m, hm, rfl, rfl, hown, hG⟩ := hrel
      have hF := fun j => hown.frozenAt j
      by_cases hlt : m < n
      · obtain ⟨c0, hd⟩ := dropK HL.out hlt
        have hml := marks_len k m
        have x0 : wr.cell? ⟨g, m, none⟩ = some c0 := (hown.cellAt (m) (by omega)).trans (by rw [hd, List.getElem?_append_right (by omega), hml]; simp)
        obtain ⟨o1, g1⟩ := hown.stored (m) (.bool ((k + (m : Int)) % 3 == 0))
        rw [hd, setK hml] at o1
        have hs : ∀ g', some g = some g' → some g' = some g ∨ w.heap.size ≤ g' := by rintro g' ⟨⟩; exact .inl rfl
        have GK := only_trans hG g1 hs
        have OO := Lib.hid o1
        have GG := Lib.hid GK
        clear o1 g1 hs GK hd hml hown
        go_wp2
        go_roundw
        case rel => exact ⟨m + 1, by omega, by go_num, by go_num, by rw [marks_succ]; exact OO.out, GG.out⟩
        case measure => simp [intOf]; omega
      · obtain rfl : m = n := by omega
        have hd : cs.drop (m) = [] := List.drop_eq_nil_of_le (by have := HL.out; omega)
        rw [hd, List.append_nil] at hown
        clear hd
        go_wp2
        go_ret
        exact ⟨rfl, hown, hG⟩

theorem mark_cells {w : World} {k : Int} {n b o : Nat} (hcell : ∀ j, j < n * 1 → w.cell? ⟨b, o + j, none⟩ = (marks k n)[j]?) (m : Nat) (hm : m < n) : w.cell? ⟨b, o + m, none⟩ = some (.bool ((k + (m : Int)) % 3 == 0)) := by
  have g := fun j (hj : j < 1) => (hcell (m * 1 + j) (by omega)).trans (flat_get (mark k) 1 (fun _ => rfl) (List.range n) m j (by simpa using hm) hj)
  simp only [List.getElem_range, Nat.mul_one] at g
  exact g 0 (by omega)

set_option maxRecDepth 100000 in
set_option maxHeartbeats 1000000 in
theorem heldBoolS (v : Value) (n : Nat) (k : Int) (w : World) (hs : Sees w 1 v n (marks k n)) (hn : n ≤ 2000000) (k0 : 0 ≤ k) (k1 : k ≤ 1000000) :
    Calls Try.prog 32 #[v, .int .i64 k] w fun e w' => e = .returned (.int .i64 (k + (n : Int))) ∧ w = w' := by
  rcases hs.2 with ⟨rfl, a, c, rfl⟩ | ⟨b, o, c, rfl, hnc, hcm, hb, hcell⟩
  · clear hs
    go_enter Try.func32, Try.ntmps32
    go_wp2
    go_loopw [1, 5] (fun kk i wr => kk = .int .i64 k ∧ i = .int .i64 0 ∧ wr = w) (fun _ _ _ => 0)
    case atStart => exact ⟨rfl, rfl, rfl⟩
    case round =>
      obtain ⟨rfl, rfl, rfl⟩ := hrel
      go_wp2
      go_ret
      exact ⟨ret_int (by simp), rfl⟩
  · have HC := Lib.hid hcell
    unfold maxLen at hcm
    clear hs hcell
    go_enter Try.func32, Try.ntmps32
    go_wp2
    go_loopw [1, 5] (fun kk i wr => ∃ m : Nat, m ≤ n ∧ i = .int .i64 m ∧ kk = .int .i64 (k + (m : Int)) ∧ wr = w) (fun _ i _ => n - (intOf i).toNat)
    case atStart => exact ⟨0, by omega, rfl, by simp, rfl⟩
    case round =>
      obtain ⟨m, hm, rfl, rfl, rfl⟩ := hrel
      by_cases hlt : m < n
      · obtain x0 := mark_cells HC.out m hlt
        go_wp2
        go_roundw
        case rel => exact ⟨m + 1, by omega, by go_num, by go_num, trivial⟩
        case measure => simp [intOf]; omega
      · obtain rfl : m = n := by omega
        go_wp2
        go_ret
        exact ⟨rfl, rfl⟩

end Go.Proofs.Ythdmpiioecogpaa.RowsBool
