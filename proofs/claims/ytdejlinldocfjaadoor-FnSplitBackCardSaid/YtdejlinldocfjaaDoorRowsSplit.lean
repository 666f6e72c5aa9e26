/-
  Contracts of the laws' helpers on slices of Split: copies, comparison, marks.
-/
import Derived.Test.YtdejlinldocfjaaDoorSplitDef
import Derived.WalkSpells
import Derived.RegionTactic
namespace Go.Proofs.YtdejlinldocfjaaDoor.RowsSplit
open Go.RowKit Go.Proofs.YtdejlinldocfjaaDoor.Spin Go.Proofs.YtdejlinldocfjaaDoor.Row Go.Proofs.YtdejlinldocfjaaDoor.SplitPlain Go.Proofs.YtdejlinldocfjaaDoor.Later Go.Proofs.YtdejlinldocfjaaDoor.SplitDef
set_option linter.unusedVariables false
set_option linter.unusedSimpArgs false

theorem at_Split {w : World} {xs : List Sp} {b o : Nat} (hcell : ∀ j, j < xs.length * 6 → w.cell? ⟨b, o + j, none⟩ = (xs.flatMap encSp)[j]?) (i : Nat) (hi : i < xs.length) : w.cell? ⟨b, o + i * 6, none⟩ = some (.int .i64 xs[i].u) ∧ w.cell? ⟨b, o + i * 6 + 1, none⟩ = some (.int .i64 xs[i].l) ∧ w.cell? ⟨b, o + i * 6 + 2, none⟩ = some (.int .i64 xs[i].p) ∧ w.cell? ⟨b, o + i * 6 + 3, none⟩ = some (.int .i64 xs[i].q) ∧ w.cell? ⟨b, o + i * 6 + 4, none⟩ = some (.int .i64 xs[i].s) ∧ w.cell? ⟨b, o + i * 6 + 5, none⟩ = some (.int .i64 xs[i].t) := by
  have g := fun j (hj : j < 6) => (hcell (i * 6 + j) (by omega)).trans (flat_get encSp 6 encSp_len xs i j hi hj)
  skip
  exact ⟨g 0 (by omega), g 1 (by omega), g 2 (by omega), g 3 (by omega), g 4 (by omega), g 5 (by omega)⟩

set_option maxRecDepth 100000 in
set_option maxHeartbeats 1000000 in
theorem sameSplits (xs : List Sp) (u v : Value) (w : World) (hu : Sees w 6 u xs.length (xs.flatMap encSp)) (hv : Sees w 6 v xs.length (xs.flatMap encSp)) :
    Calls Tryd.prog 16 #[u, v] w (Gives (.bool true) w) := by
  obtain ⟨n, hn⟩ : ∃ n, n = xs.length := ⟨_, rfl⟩
  have HN := Lib.hid hn
  rw [← hn] at hu hv
  clear hn
  rcases hu.2 with ⟨rfl, a, c, rfl⟩ | ⟨b, o, c, rfl, hnc, hcm, hb, hcell⟩
  · rcases hv.2 with ⟨_, a', c', rfl⟩ | ⟨b', o', c', rfl, hnc', hcm', hb', hcell'⟩
    · clear hu hv
      go_enter Tryd.func16, Tryd.ntmps16
      go_wp2
      go_loopw [5] (fun i wr => i = .int .i64 0 ∧ wr = w) (fun _ _ => 0)
      case atStart => exact ⟨rfl, rfl⟩
      case round =>
        obtain ⟨rfl, rfl⟩ := hrel
        go_wp2
        go_ret
        exact ⟨rfl, Below.refl _ _⟩
    · clear hu hv hcell'
      go_enter Tryd.func16, Tryd.ntmps16
      go_wp2
      go_loopw [5] (fun i wr => i = .int .i64 0 ∧ wr = w) (fun _ _ => 0)
      case atStart => exact ⟨rfl, rfl⟩
      case round =>
        obtain ⟨rfl, rfl⟩ := hrel
        go_wp2
        go_ret
        exact ⟨rfl, Below.refl _ _⟩
  · rcases hv.2 with ⟨h0, a', c', rfl⟩ | ⟨b', o', c', rfl, hnc', hcm', hb', hcell'⟩
    · subst h0
      clear hu hv hcell
      go_enter Tryd.func16, Tryd.ntmps16
      go_wp2
      go_loopw [5] (fun i wr => i = .int .i64 0 ∧ wr = w) (fun _ _ => 0)
      case atStart => exact ⟨rfl, rfl⟩
      case round =>
        obtain ⟨rfl, rfl⟩ := hrel
        go_wp2
        go_ret
        exact ⟨rfl, Below.refl _ _⟩
    · have HC := Lib.hid hcell
      have HC' := Lib.hid hcell'
      unfold maxLen at hcm hcm'
      clear hu hv hcell hcell'
      go_enter Tryd.func16, Tryd.ntmps16
      go_wp2
      go_loopw [5] (fun i wr => ∃ k q : Nat, k ≤ n ∧ i = .int .i64 k ∧ wr = w.drewN q) (fun i _ => n - (intOf i).toNat)
      case atStart => exact ⟨0, 0, by omega, rfl, rfl⟩
      case round =>
        obtain ⟨k, q, hk, rfl, rfl⟩ := hrel
        by_cases hlt : k < n
        · have hkl : k < xs.length := by have := HN.out; omega
          obtain ⟨u0, u1, u2, u3, u4, u5⟩ := at_Split (xs := xs) (b := b) (o := o) (w := w) (fun j hj => HC.out j (by have := HN.out; omega)) k hkl
          obtain ⟨v0, v1, v2, v3, v4, v5⟩ := at_Split (xs := xs) (b := b') (o := o') (w := w) (fun j hj => HC'.out j (by have := HN.out; omega)) k hkl
          generalize xs[k] = x at *
          have hk0 : (0 : Int) ≤ (k : Int) := Int.natCast_nonneg _
          have hk1 : (k : Int) < (n : Int) := by omega
          go_wp2
          go_quiet (fail)
          go_wp2
          go_roundw
          case rel => exact ⟨k + 1, _, by omega, by go_num, rfl⟩
          case measure => simp [intOf]; omega
        · go_wp2
          go_ret
          exact ⟨rfl, below_drewN (Below.refl _ _) _⟩

theorem eqRat (a0 a1 : Int) (w : World) : Calls Tryd.prog 58 #[.agg #[.int .i64 a0, .int .i64 a1], .agg #[.int .i64 a0, .int .i64 a1]] w (Gives (.bool true) w) := by
  go_enter Tryd.func58, Tryd.ntmps58
  go_wp2
  go_ret
  exact ⟨rfl, (by repeat (first | (with_reducible refine Below.drew ?_) | (with_reducible refine below_drewN ?_ _) | (with_reducible refine Below.alloc ?_ ?_ _) | (with_reducible refine Below.setCell ?_ ?_ _) | (with_reducible assumption) | (with_reducible exact Below.refl _ _) | omega | (simp <;> omega)))⟩
theorem eqSplit (a0 : Int) (a1 : Int) (a2 : Int) (a3 : Int) (a4 : Int) (a5 : Int) (w : World) : Calls Tryd.prog 35 #[.agg #[.int .i64 a0, .int .i64 a1, .int .i64 a2, .int .i64 a3, .int .i64 a4, .int .i64 a5], .agg #[.int .i64 a0, .int .i64 a1, .int .i64 a2, .int .i64 a3, .int .i64 a4, .int .i64 a5]] w (Gives (.bool true) w) := by
  go_enter Tryd.func35, Tryd.ntmps35
  go_wp2_with fail
  (with_reducible refine (eqRat _ _ _).mono ?_)
  rintro e w1 ⟨rfl, b1⟩
  have hz1 := b1.size
  obtain ⟨hc1, hf1⟩ := bcell b1
  have B1 : Below w.heap.size w w1 := Below.trans (by repeat (first | (with_reducible refine Below.drew ?_) | (with_reducible refine below_drewN ?_ _) | (with_reducible refine Below.alloc ?_ ?_ _) | (with_reducible refine Below.setCell ?_ ?_ _) | (with_reducible assumption) | (with_reducible exact Below.refl _ _) | omega | (simp <;> omega))) (b1.mono (by first | omega | (simp <;> omega)))
  (try simp at hz1)
  have hy1 : w.heap.size < w1.heap.size := by omega
  clear b1
  have hx1 : w.heap.size + 1 < w1.heap.size := by omega
  go_wp2_with fail
  (with_reducible refine (eqRat _ _ _).mono ?_)
  rintro e w2 ⟨rfl, b2⟩
  have hz2 := b2.size
  obtain ⟨hc2, hf2⟩ := bcell b2
  have B2 : Below w.heap.size w w2 := Below.trans (by repeat (first | (with_reducible refine Below.drew ?_) | (with_reducible refine below_drewN ?_ _) | (with_reducible refine Below.alloc ?_ ?_ _) | (with_reducible refine Below.setCell ?_ ?_ _) | (with_reducible assumption) | (with_reducible exact Below.refl _ _) | omega | (simp <;> omega))) (b2.mono (by first | omega | (simp <;> omega)))
  (try simp at hz2)
  have hy2 : w.heap.size < w2.heap.size := by omega
  clear b2
  have hx2 : w.heap.size + 1 < w2.heap.size := by omega
  go_wp2
  go_ret
  exact ⟨rfl, (by repeat (first | (with_reducible refine Below.drew ?_) | (with_reducible refine below_drewN ?_ _) | (with_reducible refine Below.alloc ?_ ?_ _) | (with_reducible refine Below.setCell ?_ ?_ _) | (with_reducible assumption) | (with_reducible exact Below.refl _ _) | omega | (simp <;> omega)))⟩

set_option maxRecDepth 100000 in
set_option maxHeartbeats 1000000 in
theorem eqSplitS (xs : List Sp) (u v : Value) (w : World) (hu : Sees w 6 u xs.length (xs.flatMap encSp)) (hv : Sees w 6 v xs.length (xs.flatMap encSp)) :
    Calls Tryd.prog 12 #[u, v] w (Gives (.bool true) w) := by
  obtain ⟨n, hn⟩ : ∃ n, n = xs.length := ⟨_, rfl⟩
  have HN := Lib.hid hn
  rw [← hn] at hu hv
  clear hn
  rcases hu.2 with ⟨rfl, a, c, rfl⟩ | ⟨b, o, c, rfl, hnc, hcm, hb, hcell⟩
  · rcases hv.2 with ⟨_, a', c', rfl⟩ | ⟨b', o', c', rfl, hnc', hcm', hb', hcell'⟩
    · clear hu hv
      go_enter Tryd.func12, Tryd.ntmps12
      go_wp2
      go_loopw [5] (fun i wr => i = .int .i64 0 ∧ wr = w) (fun _ _ => 0)
      case atStart => exact ⟨rfl, rfl⟩
      case round =>
        obtain ⟨rfl, rfl⟩ := hrel
        go_wp2
        go_ret
        exact ⟨rfl, Below.refl _ _⟩
    · clear hu hv hcell'
      go_enter Tryd.func12, Tryd.ntmps12
      go_wp2
      go_loopw [5] (fun i wr => i = .int .i64 0 ∧ wr = w) (fun _ _ => 0)
      case atStart => exact ⟨rfl, rfl⟩
      case round =>
        obtain ⟨rfl, rfl⟩ := hrel
        go_wp2
        go_ret
        exact ⟨rfl, Below.refl _ _⟩
  · rcases hv.2 with ⟨h0, a', c', rfl⟩ | ⟨b', o', c', rfl, hnc', hcm', hb', hcell'⟩
    · subst h0
      clear hu hv hcell
      go_enter Tryd.func12, Tryd.ntmps12
      go_wp2
      go_loopw [5] (fun i wr => i = .int .i64 0 ∧ wr = w) (fun _ _ => 0)
      case atStart => exact ⟨rfl, rfl⟩
      case round =>
        obtain ⟨rfl, rfl⟩ := hrel
        go_wp2
        go_ret
        exact ⟨rfl, Below.refl _ _⟩
    · have HC := Lib.hid hcell
      have HC' := Lib.hid hcell'
      unfold maxLen at hcm hcm'
      clear hu hv hcell hcell'
      go_enter Tryd.func12, Tryd.ntmps12
      go_wp2
      go_loopw [5] (fun i wr => ∃ k : Nat, k ≤ n ∧ i = .int .i64 k ∧ Below w.heap.size w wr) (fun i _ => n - (intOf i).toNat)
      case atStart => exact ⟨0, by omega, rfl, Below.refl _ _⟩
      case round =>
        obtain ⟨k, hk, rfl, hB⟩ := hrel
        by_cases hlt : k < n
        · have hkl : k < xs.length := by have := HN.out; omega
          obtain ⟨u0, u1, u2, u3, u4, u5⟩ := at_Split (xs := xs) (b := b) (o := o) (w := w) (fun j hj => HC.out j (by have := HN.out; omega)) k hkl
          obtain ⟨v0, v1, v2, v3, v4, v5⟩ := at_Split (xs := xs) (b := b') (o := o') (w := w) (fun j hj => HC'.out j (by have := HN.out; omega)) k hkl
          generalize xs[k] = x at *
          have hk0 : (0 : Int) ≤ (k : Int) := Int.natCast_nonneg _
          have hk1 : (k : Int) < (n : Int) := by omega
          have hbw : b < wr.heap.size := by have := hB.size; omega
          have hbw' : b' < wr.heap.size := by have := hB.size; omega
          go_wp2_with fail
          have f0 : ∀ p : Later wr.heap.size wr, p.W.cell? ⟨b, o + k * 6, none⟩ = some (.int .i64 x.u) := Later.cell ((hB.cell (p := ⟨b, _, none⟩) hb).trans u0) hbw
          have g0 : ∀ p : Later wr.heap.size wr, p.W.cell? ⟨b', o' + k * 6, none⟩ = some (.int .i64 x.u) := Later.cell ((hB.cell (p := ⟨b', _, none⟩) hb').trans v0) hbw'
          have f1 : ∀ p : Later wr.heap.size wr, p.W.cell? ⟨b, o + k * 6 + 1, none⟩ = some (.int .i64 x.l) := Later.cell ((hB.cell (p := ⟨b, _, none⟩) hb).trans u1) hbw
          have g1 : ∀ p : Later wr.heap.size wr, p.W.cell? ⟨b', o' + k * 6 + 1, none⟩ = some (.int .i64 x.l) := Later.cell ((hB.cell (p := ⟨b', _, none⟩) hb').trans v1) hbw'
          have f2 : ∀ p : Later wr.heap.size wr, p.W.cell? ⟨b, o + k * 6 + 2, none⟩ = some (.int .i64 x.p) := Later.cell ((hB.cell (p := ⟨b, _, none⟩) hb).trans u2) hbw
          have g2 : ∀ p : Later wr.heap.size wr, p.W.cell? ⟨b', o' + k * 6 + 2, none⟩ = some (.int .i64 x.p) := Later.cell ((hB.cell (p := ⟨b', _, none⟩) hb').trans v2) hbw'
          have f3 : ∀ p : Later wr.heap.size wr, p.W.cell? ⟨b, o + k * 6 + 3, none⟩ = some (.int .i64 x.q) := Later.cell ((hB.cell (p := ⟨b, _, none⟩) hb).trans u3) hbw
          have g3 : ∀ p : Later wr.heap.size wr, p.W.cell? ⟨b', o' + k * 6 + 3, none⟩ = some (.int .i64 x.q) := Later.cell ((hB.cell (p := ⟨b', _, none⟩) hb').trans v3) hbw'
          have f4 : ∀ p : Later wr.heap.size wr, p.W.cell? ⟨b, o + k * 6 + 4, none⟩ = some (.int .i64 x.s) := Later.cell ((hB.cell (p := ⟨b, _, none⟩) hb).trans u4) hbw
          have g4 : ∀ p : Later wr.heap.size wr, p.W.cell? ⟨b', o' + k * 6 + 4, none⟩ = some (.int .i64 x.s) := Later.cell ((hB.cell (p := ⟨b', _, none⟩) hb').trans v4) hbw'
          have f5 : ∀ p : Later wr.heap.size wr, p.W.cell? ⟨b, o + k * 6 + 5, none⟩ = some (.int .i64 x.t) := Later.cell ((hB.cell (p := ⟨b, _, none⟩) hb).trans u5) hbw
          have g5 : ∀ p : Later wr.heap.size wr, p.W.cell? ⟨b', o' + k * 6 + 5, none⟩ = some (.int .i64 x.t) := Later.cell ((hB.cell (p := ⟨b', _, none⟩) hb').trans v5) hbw'
          clear u0 v0 u1 v1 u2 v2 u3 v3 u4 v4 u5 v5
          refine Later.wp_region_later (wr.heap.size) (by kernel_rfl) (by kernel_rfl) ?_
          repeat (first | go_big_quiet_step ((go_at_call 35; exact later_gives (by omega) (eqSplit _ _ _ _ _ _ _))) | quiet_step ((go_at_call 35; exact later_gives (by omega) (eqSplit _ _ _ _ _ _ _))))
          refine wpQuiet_nil ?_
          rintro w1 ⟨q1, hq1⟩
          have b1 := q1.h
          rw [← hq1] at b1
          clear hq1 q1
          have B1 : Below w.heap.size w w1 := Below.trans hB (b1.mono hB.size)
          clear f0 g0 f1 g1 f2 g2 f3 g3 f4 g4 f5 g5 b1
          go_wp2
          go_roundw
          case rel => exact ⟨k + 1, by omega, by go_num, B1⟩
          case measure => simp [intOf]; omega
        · go_wp2
          go_ret
          exact ⟨rfl, hB⟩

/-- the marks of the i-th element -/
def mark (k : Int) (i : Nat) : List Value := [.int .i64 (k + 6 * (i : Int)), .int .i64 (k + 6 * (i : Int) + 1), .int .i64 (k + 6 * (i : Int) + 1 + 1), .int .i64 (k + 6 * (i : Int) + 1 + 1 + 1), .int .i64 (k + 6 * (i : Int) + 1 + 1 + 1 + 1), .int .i64 (k + 6 * (i : Int) + 1 + 1 + 1 + 1 + 1)]
def marks (k : Int) (n : Nat) : List Value := (List.range n).flatMap (mark k)
theorem marks_len (k : Int) (n : Nat) : (marks k n).length = n * 6 := by unfold marks; rw [flat_length (mark k) 6 (fun _ => rfl)]; simp
theorem marks_succ (k : Int) (n : Nat) : marks k (n + 1) = marks k n ++ mark k n := by simp [marks, List.range_succ]
theorem dropK {cs : List Value} {m n : Nat} (hl : cs.length = n * 6) (hm : m < n) : ∃ c0 c1 c2 c3 c4 c5, cs.drop (m * 6) = c0 :: c1 :: c2 :: c3 :: c4 :: c5 :: cs.drop ((m + 1) * 6) := by
  refine ⟨cs[m * 6]'(by omega), cs[m * 6 + 1]'(by omega), cs[m * 6 + 2]'(by omega), cs[m * 6 + 3]'(by omega), cs[m * 6 + 4]'(by omega), cs[m * 6 + 5]'(by omega), ?_⟩
  rw [List.drop_eq_getElem_cons (by omega), List.drop_eq_getElem_cons (by omega), List.drop_eq_getElem_cons (by omega), List.drop_eq_getElem_cons (by omega), List.drop_eq_getElem_cons (by omega), List.drop_eq_getElem_cons (by omega)]
  rw [show (m + 1) * 6 = m * 6 + 1 + 1 + 1 + 1 + 1 + 1 by omega]
theorem setK {p r : List Value} {a0 a1 a2 a3 a4 a5 c0 c1 c2 c3 c4 c5 : Value} {i : Nat} (hp : p.length = i) : ((((((p ++ c0 :: c1 :: c2 :: c3 :: c4 :: c5 :: r).set (i) a0).set (i + 1) a1).set (i + 2) a2).set (i + 3) a3).set (i + 4) a4).set (i + 5) a5 = (p ++ [a0, a1, a2, a3, a4, a5]) ++ r := by
  subst hp
  simp

/-- marks fill the row; only the row has turned -/
def Marked (base : Nat) (E : TypeId) (v : Value) (n : Nat) (k : Int) (w : World) (e : Ending) (w' : World) : Prop :=
  e = .returned (.int .i64 (k + 6 * (n : Int))) ∧ w'.ownsRow base E 6 v n (marks k n) ∧ w.grownBy w' v.ownBlock

set_option maxRecDepth 100000 in
set_option maxHeartbeats 1000000 in
theorem markSplitS (base : Nat) (v : Value) (n : Nat) (cs : List Value) (k : Int) (w : World) (hown : w.ownsRow base 42 6 v n cs) (hn : n ≤ 2000000) (k0 : 0 ≤ k) (k1 : k ≤ 1000000) :
    Calls Tryd.prog 13 #[v, .int .i64 k] w (Marked base 42 v n k w) := by
  have hl := hown.1
  rcases hown.2 with ⟨rfl, rfl⟩ | ⟨g, c, cur, rfl, hbg, hg, hnc, hcm, hcs, htake⟩
  · have HO := Lib.hid hown
    clear hown hl
    go_enter Tryd.func13, Tryd.ntmps13
    go_wp2
    go_loopw [1, 5] (fun kk i wr => kk = .int .i64 k ∧ i = .int .i64 0 ∧ wr = w) (fun _ _ _ => 0)
    case atStart => exact ⟨rfl, rfl, rfl⟩
    case round =>
      obtain ⟨rfl, rfl, rfl⟩ := hrel
      go_wp2
      go_ret
      exact ⟨ret_int (by simp), World.ownsRow_nil _ _ _ _, only_refl _ _⟩
  · have HO := Lib.hid hown
    have HL := Lib.hid hl
    unfold maxLen at hcm
    clear hg htake hcs hown hl
    go_enter Tryd.func13, Tryd.ntmps13
    go_wp2
    go_loopw [1, 5] (fun kk i wr => ∃ m : Nat, m ≤ n ∧ i = .int .i64 m ∧ kk = .int .i64 (k + 6 * (m : Int)) ∧ wr.ownsRow base 42 6 (.slice (some ⟨g, 0, none⟩) n c) n (marks k m ++ cs.drop (m * 6)) ∧ w.grownBy wr (some g)) (fun _ i _ => n - (intOf i).toNat)
    case atStart => exact ⟨0, by omega, rfl, by simp, by simpa [marks] using HO.out, only_refl _ _⟩
    case round =>
      obtain ⟨m, hm, rfl, rfl, hown, hG⟩ := hrel
      have hF := fun j => hown.frozenAt j
      by_cases hlt : m < n
      · obtain ⟨c0, c1, c2, c3, c4, c5, hd⟩ := dropK HL.out hlt
        have hml := marks_len k m
        have x0 : wr.cell? ⟨g, m * 6, none⟩ = some c0 := (hown.cellAt (m * 6) (by omega)).trans (by rw [hd, List.getElem?_append_right (by omega), hml]; simp)
        have x1 : wr.cell? ⟨g, m * 6 + 1, none⟩ = some c1 := (hown.cellAt (m * 6 + 1) (by omega)).trans (by rw [hd, List.getElem?_append_right (by omega), hml]; simp)
        have x2 : wr.cell? ⟨g, m * 6 + 2, none⟩ = some c2 := (hown.cellAt (m * 6 + 2) (by omega)).trans (by rw [hd, List.getElem?_append_right (by omega), hml]; simp)
        have x3 : wr.cell? ⟨g, m * 6 + 3, none⟩ = some c3 := (hown.cellAt (m * 6 + 3) (by omega)).trans (by rw [hd, List.getElem?_append_right (by omega), hml]; simp)
        have x4 : wr.cell? ⟨g, m * 6 + 4, none⟩ = some c4 := (hown.cellAt (m * 6 + 4) (by omega)).trans (by rw [hd, List.getElem?_append_right (by omega), hml]; simp)
        have x5 : wr.cell? ⟨g, m * 6 + 5, none⟩ = some c5 := (hown.cellAt (m * 6 + 5) (by omega)).trans (by rw [hd, List.getElem?_append_right (by omega), hml]; simp)
        obtain ⟨o1, g1⟩ := hown.stored (m * 6) (.int .i64 (k + 6 * (m : Int)))
        obtain ⟨o2, g2⟩ := o1.stored (m * 6 + 1) (.int .i64 (k + 6 * (m : Int) + 1))
        obtain ⟨o3, g3⟩ := o2.stored (m * 6 + 2) (.int .i64 (k + 6 * (m : Int) + 1 + 1))
        obtain ⟨o4, g4⟩ := o3.stored (m * 6 + 3) (.int .i64 (k + 6 * (m : Int) + 1 + 1 + 1))
        obtain ⟨o5, g5⟩ := o4.stored (m * 6 + 4) (.int .i64 (k + 6 * (m : Int) + 1 + 1 + 1 + 1))
        obtain ⟨o6, g6⟩ := o5.stored (m * 6 + 5) (.int .i64 (k + 6 * (m : Int) + 1 + 1 + 1 + 1 + 1))
        rw [hd, setK hml] at o6
        have hs : ∀ g', some g = some g' → some g' = some g ∨ w.heap.size ≤ g' := by rintro g' ⟨⟩; exact .inl rfl
        have GK := only_trans (only_trans (only_trans (only_trans (only_trans (only_trans hG g1 hs) g2 hs) g3 hs) g4 hs) g5 hs) g6 hs
        have OO := Lib.hid o6
        have GG := Lib.hid GK
        clear o1 g1 o2 g2 o3 g3 o4 g4 o5 g5 o6 g6 hs GK hd hml hown
        go_wp2
        go_roundw
        case rel => exact ⟨m + 1, by omega, by go_num, by go_num, by rw [marks_succ]; exact OO.out, GG.out⟩
        case measure => simp [intOf]; omega
      · obtain rfl : m = n := by omega
        have hd : cs.drop (m * 6) = [] := List.drop_eq_nil_of_le (by have := HL.out; omega)
        rw [hd, List.append_nil] at hown
        clear hd
        go_wp2
        go_ret
        exact ⟨rfl, hown, hG⟩

theorem mark_cells {w : World} {k : Int} {n b o : Nat} (hcell : ∀ j, j < n * 6 → w.cell? ⟨b, o + j, none⟩ = (marks k n)[j]?) (m : Nat) (hm : m < n) : w.cell? ⟨b, o + m * 6, none⟩ = some (.int .i64 (k + 6 * (m : Int))) ∧ w.cell? ⟨b, o + m * 6 + 1, none⟩ = some (.int .i64 (k + 6 * (m : Int) + 1)) ∧ w.cell? ⟨b, o + m * 6 + 2, none⟩ = some (.int .i64 (k + 6 * (m : Int) + 1 + 1)) ∧ w.cell? ⟨b, o + m * 6 + 3, none⟩ = some (.int .i64 (k + 6 * (m : Int) + 1 + 1 + 1)) ∧ w.cell? ⟨b, o + m * 6 + 4, none⟩ = some (.int .i64 (k + 6 * (m : Int) + 1 + 1 + 1 + 1)) ∧ w.cell? ⟨b, o + m * 6 + 5, none⟩ = some (.int .i64 (k + 6 * (m : Int) + 1 + 1 + 1 + 1 + 1)) := by
  have g := fun j (hj : j < 6) => (hcell (m * 6 + j) (by omega)).trans (flat_get (mark k) 6 (fun _ => rfl) (List.range n) m j (by simpa using hm) hj)
  simp only [List.getElem_range] at g
  exact ⟨g 0 (by omega), g 1 (by omega), g 2 (by omega), g 3 (by omega), g 4 (by omega), g 5 (by omega)⟩

set_option maxRecDepth 100000 in
set_option maxHeartbeats 1000000 in
theorem heldSplitS (v : Value) (n : Nat) (k : Int) (w : World) (hs : Sees w 6 v n (marks k n)) (hn : n ≤ 2000000) (k0 : 0 ≤ k) (k1 : k ≤ 1000000) :
    Calls Tryd.prog 14 #[v, .int .i64 k] w fun e w' => e = .returned (.int .i64 (k + 6 * (n : Int))) ∧ w = w' := by
  rcases hs.2 with ⟨rfl, a, c, rfl⟩ | ⟨b, o, c, rfl, hnc, hcm, hb, hcell⟩
  · clear hs
    go_enter Tryd.func14, Tryd.ntmps14
    go_wp2
    go_loopw [1, 5] (fun kk i wr => kk = .int .i64 k ∧ i = .int .i64 0 ∧ wr = w) (fun _ _ _ => 0)
    case atStart => exact ⟨rfl, rfl, rfl⟩
    case round =>
      obtain ⟨rfl, rfl, rfl⟩ := hrel
      go_wp2
      go_ret
      exact ⟨ret_int (by simp), rfl⟩
  · have HC := Lib.hid hcell
    unfold maxLen at hcm
    clear hs hcell
    go_enter Tryd.func14, Tryd.ntmps14
    go_wp2
    go_loopw [1, 5] (fun kk i wr => ∃ m : Nat, m ≤ n ∧ i = .int .i64 m ∧ kk = .int .i64 (k + 6 * (m : Int)) ∧ wr = w) (fun _ i _ => n - (intOf i).toNat)
    case atStart => exact ⟨0, by omega, rfl, by simp, rfl⟩
    case round =>
      obtain ⟨m, hm, rfl, rfl, rfl⟩ := hrel
      by_cases hlt : m < n
      · obtain ⟨x0, x1, x2, x3, x4, x5⟩ := mark_cells HC.out m hlt
        go_wp2
        go_roundw
        case rel => exact ⟨m + 1, by omega, by go_num, by go_num, trivial⟩
        case measure => simp [intOf]; omega
      · obtain rfl : m = n := by omega
        go_wp2
        go_ret
        exact ⟨rfl, rfl⟩


end Go.Proofs.YtdejlinldocfjaaDoor.RowsSplit
