/-
  Contracts of the laws' helpers on slices of Line: copies, comparison, marks.
-/
import Derived.Test.YtgkgdnocleajcaaLine
import Derived.WalkSpells
import Derived.RegionTactic
namespace Go.Proofs.Ytgkgdnocleajcaa.RowsLine
open Go.RowKit Go.Proofs.Ytgkgdnocleajcaa.Spin Go.Proofs.Ytgkgdnocleajcaa.Row Go.Proofs.Ytgkgdnocleajcaa.Plain Go.Proofs.Ytgkgdnocleajcaa.Later Go.Proofs.Ytgkgdnocleajcaa.Line
set_option linter.unusedVariables false
set_option linter.unusedSimpArgs false

theorem at_Line {w : World} {xs : List Ln} {b o : Nat} (hcell : ∀ j, j < xs.length * 3 → w.cell? ⟨b, o + j, none⟩ = (xs.flatMap encLn)[j]?) (i : Nat) (hi : i < xs.length) : w.cell? ⟨b, o + i * 3, none⟩ = some (.int .i64 (xs[i].u : Int)) ∧ w.cell? ⟨b, o + i * 3 + 1, none⟩ = some (.int .i64 (xs[i].l : Int)) ∧ w.cell? ⟨b, o + i * 3 + 2, none⟩ = some (.int .i64 xs[i].n) := by
  have g := fun j (hj : j < 3) => (hcell (i * 3 + j) (by omega)).trans (flat_get encLn 3 encLn_len xs i j hi hj)
  skip
  exact ⟨g 0 (by omega), g 1 (by omega), g 2 (by omega)⟩

set_option maxHeartbeats 1000000 in
theorem sameLines (xs : List Ln) (u v : Value) (w : World) (hu : Sees w 3 u xs.length (xs.flatMap encLn)) (hv : Sees w 3 v xs.length (xs.flatMap encLn)) :
    Calls Try.prog 25 #[u, v] w (Gives (.bool true) w) := by
  obtain ⟨n, hn⟩ : ∃ n, n = xs.length := ⟨_, rfl⟩
  have HN := Lib.hid hn
  rw [← hn] at hu hv
  clear hn
  rcases hu.2 with ⟨rfl, a, c, rfl⟩ | ⟨b, o, c, rfl, hnc, hcm, hb, hcell⟩
  · rcases hv.2 with ⟨_, a', c', rfl⟩ | ⟨b', o', c', rfl, hnc', hcm', hb', hcell'⟩
    · clear hu hv
      go_enter Try.func25, Try.ntmps25
      go_wp2
      go_loopw [5] (fun i wr => i = .int .i64 0 ∧ wr = w) (fun _ _ => 0)
      case atStart => exact ⟨rfl, rfl⟩
      case round =>
        obtain ⟨rfl, rfl⟩ := hrel
        go_wp2
        go_ret
        exact ⟨rfl, Below.refl _ _⟩
    · clear hu hv hcell'
      go_enter Try.func25, Try.ntmps25
      go_wp2
      go_loopw [5] (fun i wr => i = .int .i64 0 ∧ wr = w) (fun _ _ => 0)
      case atStart => exact ⟨rfl, rfl⟩
      case round =>
        obtain ⟨rfl, rfl⟩ := hrel
        go_wp2
        go_ret
        exact ⟨rfl, Below.refl _ _⟩
  · rcases hv.2 with ⟨h0, a', c', rfl⟩ | ⟨b', o', c', rfl, hnc', hcm', hb', hcell'⟩
    · subst h0
      clear hu hv hcell
      go_enter Try.func25, Try.ntmps25
      go_wp2
      go_loopw [5] (fun i wr => i = .int .i64 0 ∧ wr = w) (fun _ _ => 0)
      case atStart => exact ⟨rfl, rfl⟩
      case round =>
        obtain ⟨rfl, rfl⟩ := hrel
        go_wp2
        go_ret
        exact ⟨rfl, Below.refl _ _⟩
    · have HC := Lib.hid hcell
      have HC' := Lib.hid hcell'
      unfold maxLen at hcm hcm'
      clear hu hv hcell hcell'
      go_enter Try.func25, Try.ntmps25
      go_wp2
      go_loopw [5] (fun i wr => ∃ k q : Nat, k ≤ n ∧ i = .int .i64 k ∧ wr = w.drewN q) (fun i _ => n - (intOf i).toNat)
      case atStart => exact ⟨0, 0, by omega, rfl, rfl⟩
      case round =>
        obtain ⟨k, q, hk, rfl, rfl⟩ := hrel
        by_cases hlt : k < n
        · have hkl : k < xs.length := by have := HN.out; omega
          obtain ⟨u0, u1, u2⟩ := at_Line (xs := xs) (b := b) (o := o) (w := w) (fun j hj => HC.out j (by have := HN.out; omega)) k hkl
          obtain ⟨v0, v1, v2⟩ := at_Line (xs := xs) (b := b') (o := o') (w := w) (fun j hj => HC'.out j (by have := HN.out; omega)) k hkl
          generalize xs[k] = x at *
          have hk0 : (0 : Int) ≤ (k : Int) := Int.natCast_nonneg _
          have hk1 : (k : Int) < (n : Int) := by omega
          go_wp2
          go_quiet (fail)
          go_wp2
          go_roundw
          case rel => exact ⟨k + 1, _, by omega, by go_num, rfl⟩
          case measure => simp [intOf]; omega
        · go_wp2
          go_ret
          exact ⟨rfl, below_drewN (Below.refl _ _) _⟩

theorem eqLine (a0 : Int) (a1 : Int) (a2 : Int) (w : World) : Calls Try.prog 49 #[.agg #[.int .i64 a0, .int .i64 a1, .int .i64 a2], .agg #[.int .i64 a0, .int .i64 a1, .int .i64 a2]] w (Gives (.bool true) w) := by
  go_enter Try.func49, Try.ntmps49
  go_wp2
  go_ret
  exact ⟨rfl, (by repeat (first | (with_reducible refine Below.drew ?_) | (with_reducible refine below_drewN ?_ _) | (with_reducible refine Below.alloc ?_ ?_ _) | (with_reducible refine Below.setCell ?_ ?_ _) | (with_reducible assumption) | (with_reducible exact Below.refl _ _) | omega | (simp <;> omega)))⟩

set_option maxHeartbeats 1000000 in
theorem eqLineS (xs : List Ln) (u v : Value) (w : World) (hu : Sees w 3 u xs.length (xs.flatMap encLn)) (hv : Sees w 3 v xs.length (xs.flatMap encLn)) :
    Calls Try.prog 27 #[u, v] w (Gives (.bool true) w) := by
  obtain ⟨n, hn⟩ : ∃ n, n = xs.length := ⟨_, rfl⟩
  have HN := Lib.hid hn
  rw [← hn] at hu hv
  clear hn
  rcases hu.2 with ⟨rfl, a, c, rfl⟩ | ⟨b, o, c, rfl, hnc, hcm, hb, hcell⟩
  · rcases hv.2 with ⟨_, a', c', rfl⟩ | ⟨b', o', c', rfl, hnc', hcm', hb', hcell'⟩
    · clear hu hv
      go_enter Try.func27, Try.ntmps27
      go_wp2
      go_loopw [5] (fun i wr => i = .int .i64 0 ∧ wr = w) (fun _ _ => 0)
      case atStart => exact ⟨rfl, rfl⟩
      case round =>
        obtain ⟨rfl, rfl⟩ := hrel
        go_wp2
        go_ret
        exact ⟨rfl, Below.refl _ _⟩
    · clear hu hv hcell'
      go_enter Try.func27, Try.ntmps27
      go_wp2
      go_loopw [5] (fun i wr => i = .int .i64 0 ∧ wr = w) (fun _ _ => 0)
      case atStart => exact ⟨rfl, rfl⟩
      case round =>
        obtain ⟨rfl, rfl⟩ := hrel
        go_wp2
        go_ret
        exact ⟨rfl, Below.refl _ _⟩
  · rcases hv.2 with ⟨h0, a', c', rfl⟩ | ⟨b', o', c', rfl, hnc', hcm', hb', hcell'⟩
    · subst h0
      clear hu hv hcell
      go_enter Try.func27, Try.ntmps27
      go_wp2
      go_loopw [5] (fun i wr => i = .int .i64 0 ∧ wr = w) (fun _ _ => 0)
      case atStart => exact ⟨rfl, rfl⟩
      case round =>
        obtain ⟨rfl, rfl⟩ := hrel
        go_wp2
        go_ret
        exact ⟨rfl, Below.refl _ _⟩
    · have HC := Lib.hid hcell
      have HC' := Lib.hid hcell'
      unfold maxLen at hcm hcm'
      clear hu hv hcell hcell'
      go_enter Try.func27, Try.ntmps27
      go_wp2
      go_loopw [5] (fun i wr => ∃ k : Nat, k ≤ n ∧ i = .int .i64 k ∧ Below w.heap.size w wr) (fun i _ => n - (intOf i).toNat)
      case atStart => exact ⟨0, by omega, rfl, Below.refl _ _⟩
      case round =>
        obtain ⟨k, hk, rfl, hB⟩ := hrel
        by_cases hlt : k < n
        · have hkl : k < xs.length := by have := HN.out; omega
          obtain ⟨u0, u1, u2⟩ := at_Line (xs := xs) (b := b) (o := o) (w := w) (fun j hj => HC.out j (by have := HN.out; omega)) k hkl
          obtain ⟨v0, v1, v2⟩ := at_Line (xs := xs) (b := b') (o := o') (w := w) (fun j hj => HC'.out j (by have := HN.out; omega)) k hkl
          generalize xs[k] = x at *
          have hk0 : (0 : Int) ≤ (k : Int) := Int.natCast_nonneg _
          have hk1 : (k : Int) < (n : Int) := by omega
          have hbw : b < wr.heap.size := by have := hB.size; omega
          have hbw' : b' < wr.heap.size := by have := hB.size; omega
          go_wp2_with fail
          have f0 : ∀ p : Later wr.heap.size wr, p.W.cell? ⟨b, o + k * 3, none⟩ = some (.int .i64 (x.u : Int)) := Later.cell ((hB.cell (p := ⟨b, _, none⟩) hb).trans u0) hbw
          have g0 : ∀ p : Later wr.heap.size wr, p.W.cell? ⟨b', o' + k * 3, none⟩ = some (.int .i64 (x.u : Int)) := Later.cell ((hB.cell (p := ⟨b', _, none⟩) hb').trans v0) hbw'
          have f1 : ∀ p : Later wr.heap.size wr, p.W.cell? ⟨b, o + k * 3 + 1, none⟩ = some (.int .i64 (x.l : Int)) := Later.cell ((hB.cell (p := ⟨b, _, none⟩) hb).trans u1) hbw
          have g1 : ∀ p : Later wr.heap.size wr, p.W.cell? ⟨b', o' + k * 3 + 1, none⟩ = some (.int .i64 (x.l : Int)) := Later.cell ((hB.cell (p := ⟨b', _, none⟩) hb').trans v1) hbw'
          have f2 : ∀ p : Later wr.heap.size wr, p.W.cell? ⟨b, o + k * 3 + 2, none⟩ = some (.int .i64 x.n) := Later.cell ((hB.cell (p := ⟨b, _, none⟩) hb).trans u2) hbw
          have g2 : ∀ p : Later wr.heap.size wr, p.W.cell? ⟨b', o' + k * 3 + 2, none⟩ = some (.int .i64 x.n) := Later.cell ((hB.cell (p := ⟨b', _, none⟩) hb').trans v2) hbw'
          clear u0 v0 u1 v1 u2 v2
          refine Later.wp_region_later (wr.heap.size) (by kernel_rfl) (by kernel_rfl) ?_
          repeat (first | go_big_quiet_step ((go_at_call 49; exact later_gives (by omega) (eqLine _ _ _ _))) | quiet_step ((go_at_call 49; exact later_gives (by omega) (eqLine _ _ _ _))))
          refine wpQuiet_nil ?_
          rintro w1 ⟨q1, hq1⟩
          have b1 := q1.h
          rw [← hq1] at b1
          clear hq1 q1
          have B1 : Below w.heap.size w w1 := Below.trans hB (b1.mono hB.size)
          clear f0 g0 f1 g1 f2 g2 b1
          go_wp2
          go_roundw
          case rel => exact ⟨k + 1, by omega, by go_num, B1⟩
          case measure => simp [intOf]; omega
        · go_wp2
          go_ret
          exact ⟨rfl, hB⟩

/-- the marks of the i-th element -/
def mark (k : Int) (i : Nat) : List Value := [.int .i64 (k + 3 * (i : Int)), .int .i64 (k + 3 * (i : Int) + 1), .int .i64 (k + 3 * (i : Int) + 1 + 1)]
def marks (k : Int) (n : Nat) : List Value := (List.range n).flatMap (mark k)
theorem marks_len (k : Int) (n : Nat) : (marks k n).length = n * 3 := by unfold marks; rw [flat_length (mark k) 3 (fun _ => rfl)]; simp
theorem marks_succ (k : Int) (n : Nat) : marks k (n + 1) = marks k n ++ mark k n := by simp [marks, List.range_succ]
theorem dropK {cs : List Value} {m n : Nat} (hl : cs.length = n * 3) (hm : m < n) : ∃ c0 c1 c2, cs.drop (m * 3) = c0 :: c1 :: c2 :: cs.drop ((m + 1) * 3) := by
  refine ⟨cs[m * 3]'(by omega), cs[m * 3 + 1]'(by omega), cs[m * 3 + 2]'(by omega), ?_⟩
  rw [List.drop_eq_getElem_cons (by omega), List.drop_eq_getElem_cons (by omega), List.drop_eq_getElem_cons (by omega)]
  rw [show (m + 1) * 3 = m * 3 + 1 + 1 + 1 by omega]
theorem setK {p r : List Value} {a0 a1 a2 c0 c1 c2 : Value} {i : Nat} (hp : p.length = i) : (((p ++ c0 :: c1 :: c2 :: r).set (i) a0).set (i + 1) a1).set (i + 2) a2 = (p ++ [a0, a1, a2]) ++ r := by
  subst hp
  simp

/-- marks fill the row; only the row has turned -/
def Marked (base : Nat) (E : TypeId) (v : Value) (n : Nat) (k : Int) (w : World) (e : Ending) (w' : World) : Prop :=
  e = .returned (.int .i64 (k + 3 * (n : Int))) ∧ w'.ownsRow base E 3 v n (marks k n) ∧ w.grownBy w' v.ownBlock

set_option maxHeartbeats 1000000 in
theorem markLineS (base : Nat) (v : Value) (n : Nat) (cs : List Value) (k : Int) (w : World) (hown : w.ownsRow base 39 3 v n cs) (hn : n ≤ 2000000) (k0 : 0 ≤ k) (k1 : k ≤ 1000000) :
    Calls Try.prog 29 #[v, .int .i64 k] w (Marked base 39 v n k w) := by
  have hl := hown.1
  rcases hown.2 with ⟨rfl, rfl⟩ | ⟨g, c, cur, rfl, hbg, hg, hnc, hcm, hcs, htake⟩
  · have HO := Lib.hid hown
    clear hown hl
    go_enter Try.func29, Try.ntmps29
    go_wp2
    go_loopw [1, 5] (fun kk i wr => kk = .int .i64 k ∧ i = .int .i64 0 ∧ wr = w) (fun _ _ _ => 0)
    case atStart => exact ⟨rfl, rfl, rfl⟩
    case round =>
      obtain ⟨rfl, rfl, rfl⟩ := hrel
      go_wp2
      go_ret
      exact ⟨ret_int (by simp), World.ownsRow_nil _ _ _ _, only_refl _ _⟩
  · have HO := Lib.hid hown
    have HL := Lib.hid hl
    unfold maxLen at hcm
    clear hg htake hcs hown hl
    go_enter Try.func29, Try.ntmps29
    go_wp2
    go_loopw [1, 5] (fun kk i wr => ∃ m : Nat, m ≤ n ∧ i = .int .i64 m ∧ kk = .int .i64 (k + 3 * (m : Int)) ∧ wr.ownsRow base 39 3 (.slice (some ⟨g, 0, none⟩) n c) n (marks k m ++ cs.drop (m * 3)) ∧ w.grownBy wr (some g)) (fun _ i _ => n - (intOf i).toNat)
    case atStart => exact ⟨0, by omega, rfl, by simp, by simpa [marks] using HO.out, only_refl _ _⟩
    case round =>
      obtain ⟨m, hm, rfl, rfl, hown, hG⟩ := hrel
      have hF := fun j => hown.frozenAt j
      by_cases hlt : m < n
      · obtain ⟨c0, c1, c2, hd⟩ := dropK HL.out hlt
        have hml := marks_len k m
        have x0 : wr.cell? ⟨g, m * 3, none⟩ = some c0 := (hown.cellAt (m * 3) (by omega)).trans (by rw [hd, List.getElem?_append_right (by omega), hml]; simp)
        have x1 : wr.cell? ⟨g, m * 3 + 1, none⟩ = some c1 := (hown.cellAt (m * 3 + 1) (by omega)).trans (by rw [hd, List.getElem?_append_right (by omega), hml]; simp)
        have x2 : wr.cell? ⟨g, m * 3 + 2, none⟩ = some c2 := (hown.cellAt (m * 3 + 2) (by omega)).trans (by rw [hd, List.getElem?_append_right (by omega), hml]; simp)
        obtain ⟨o1, g1⟩ := hown.stored (m * 3) (.int .i64 (k + 3 * (m : Int)))
        obtain ⟨o2, g2⟩ := o1.stored (m * 3 + 1) (.int .i64 (k + 3 * (m : Int) + 1))
        obtain ⟨o3, g3⟩ := o2.stored (m * 3 + 2) (.int .i64 (k + 3 * (m : Int) + 1 + 1))
        rw [hd, setK hml] at o3
        have hs : ∀ g', some g = some g' → some g' = some g ∨ w.heap.size ≤ g' := by rintro g' ⟨⟩; exact .inl rfl
        have GK := only_trans (only_trans (only_trans hG g1 hs) g2 hs) g3 hs
        have OO := Lib.hid o3
        have GG := Lib.hid GK
        clear o1 g1 o2 g2 o3 g3 hs GK hd hml hown
        go_wp2
        go_roundw
        case rel => exact ⟨m + 1, by omega, by go_num, by go_num, by rw [marks_succ]; exact OO.out, GG.out⟩
        case measure => simp [intOf]; omega
      · obtain rfl : m = n := by omega
        have hd : cs.drop (m * 3) = [] := List.drop_eq_nil_of_le (by have := HL.out; omega)
        rw [hd, List.append_nil] at hown
        clear hd
        go_wp2
        go_ret
        exact ⟨rfl, hown, hG⟩

theorem mark_cells {w : World} {k : Int} {n b o : Nat} (hcell : ∀ j, j < n * 3 → w.cell? ⟨b, o + j, none⟩ = (marks k n)[j]?) (m : Nat) (hm : m < n) : w.cell? ⟨b, o + m * 3, none⟩ = some (.int .i64 (k + 3 * (m : Int))) ∧ w.cell? ⟨b, o + m * 3 + 1, none⟩ = some (.int .i64 (k + 3 * (m : Int) + 1)) ∧ w.cell? ⟨b, o + m * 3 + 2, none⟩ = some (.int .i64 (k + 3 * (m : Int) + 1 + 1)) := by
  have g := fun j (hj : j < 3) => (hcell (m * 3 + j) (by omega)).trans (flat_get (mark k) 3 (fun _ => rfl) (List.range n) m j (by simpa using hm) hj)
  simp only [List.getElem_range] at g
  exact ⟨g 0 (by omega), g 1 (by omega), g 2 (by omega)⟩

set_option maxHeartbeats 1000000 in
theorem heldLineS (v : Value) (n : Nat) (k : Int) (w : World) (hs : Sees w 3 v n (marks k n)) (hn : n ≤ 2000000) (k0 : 0 ≤ k) (k1 : k ≤ 1000000) :
    Calls Try.prog 30 #[v, .int .i64 k] w fun e w' => e = .returned (.int .i64 (k + 3 * (n : Int))) ∧ w = w' := by
  rcases hs.2 with ⟨rfl, a, c, rfl⟩ | ⟨b, o, c, rfl, hnc, hcm, hb, hcell⟩
  · clear hs
    go_enter Try.func30, Try.ntmps30
    go_wp2
    go_loopw [1, 5] (fun kk i wr => kk = .int .i64 k ∧ i = .int .i64 0 ∧ wr = w) (fun _ _ _ => 0)
    case atStart => exact ⟨rfl, rfl, rfl⟩
    case round =>
      obtain ⟨rfl, rfl, rfl⟩ := hrel
      go_wp2
      go_ret
      exact ⟨ret_int (by simp), rfl⟩
  · have HC := Lib.hid hcell
    unfold maxLen at hcm
    clear hs hcell
    go_enter Try.func30, Try.ntmps30
    go_wp2
    go_loopw [1, 5] (fun kk i wr => ∃ m : Nat, m ≤ n ∧ i = .int .i64 m ∧ kk = .int .i64 (k + 3 * (m : Int)) ∧ wr = w) (fun _ i _ => n - (intOf i).toNat)
    case atStart => exact ⟨0, by omega, rfl, by simp, rfl⟩
    case round =>
      obtain ⟨m, hm, rfl, rfl, rfl⟩ := hrel
      by_cases hlt : m < n
      · obtain ⟨x0, x1, x2⟩ := mark_cells HC.out m hlt
        go_wp2
        go_roundw
        case rel => exact ⟨m + 1, by omega, by go_num, by go_num, trivial⟩
        case measure => simp [intOf]; omega
      · obtain rfl : m = n := by omega
        go_wp2
        go_ret
        exact ⟨rfl, rfl⟩

end Go.Proofs.Ytgkgdnocleajcaa.RowsLine
