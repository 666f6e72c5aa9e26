/-
  Contracts of the laws' helpers on slices of Split: copies, comparison, marks.
-/
import Derived.Test.YtdejlinldocfjaaSplitDef
import Derived.WalkSpells
import Derived.RegionTactic
namespace Go.Proofs.Ytdejlinldocfjaa.RowsSplit
open Go.RowKit Go.Proofs.Ytdejlinldocfjaa.Spin Go.Proofs.Ytdejlinldocfjaa.Row Go.Proofs.Ytdejlinldocfjaa.SplitPlain Go.Proofs.Ytdejlinldocfjaa.Later Go.Proofs.Ytdejlinldocfjaa.SplitDef
set_option linter.unusedVariables false
set_option linter.unusedSimpArgs false

theorem at_Split {w : World} {xs : List Sp} {b o : Nat} (hcell : ∀ j, j < xs.length * 6 → w.cell? ⟨b, o + j, none⟩ = (xs.flatMap encSp)[j]?) (i : Nat) (hi : i < xs.length) : w.cell? ⟨b, o + i * 6, none⟩ = some (.int .i64 xs[i].u) ∧ w.cell? ⟨b, o + i * 6 + 1, none⟩ = some (.int .i64 xs[i].l) ∧ w.cell? ⟨b, o + i * 6 + 2, none⟩ = some (.int .i64 xs[i].p) ∧ w.cell? ⟨b, o + i * 6 + 3, none⟩ = some (.int .i64 xs[i].q) ∧ w.cell? ⟨b, o + i * 6 + 4, none⟩ = some (.int .i64 xs[i].s) ∧ w.cell? ⟨b, o + i * 6 + 5, none⟩ = some (.int .i64 xs[i].t) := by
  have g := fun j (hj : j < 6) => (hcell (i * 6 + j) (by omega)).trans (flat_get encSp 6 encSp_len xs i j hi hj)
  skip
  exact ⟨g 0 (by omega), g 1 (by omega), g 2 (by omega), g 3 (by omega), g 4 (by omega), g 5 (by omega)⟩

set_option maxRecDepth 100000 in
set_option maxHeartbeats 1000000 in
theorem sameSplits (xs : List Sp) (u v : Value) (w : World) (hu : Sees w 6 u xs.length (xs.flatMap encSp)) (hv : Sees w 6 v xs.length (xs.flatMap encSp)) :
    Calls Try.prog 22 #[u, v] w (Gives (.bool true) w) := by
  obtain ⟨n, hn⟩ : ∃ n, n = xs.length := ⟨_, rfl⟩
  have HN := Lib.hid hn
  rw [← hn] at hu hv
  clear hn
  rcases hu.2 with ⟨rfl, a, c, rfl⟩ | ⟨b, o, c, rfl, hnc, hcm, hb, hcell⟩
  · rcases hv.2 with ⟨_, a', c', rfl⟩ | ⟨b', o', c', rfl, hnc', hcm', hb', hcell'⟩
    · clear hu hv
      go_enter Try.func22, Try.ntmps22
      go_wp2
      go_loopw [5] (fun i wr => i = .int .i64 0 ∧ wr = w) (fun _ _ => 0)
      case atStart => exact ⟨rfl, rfl⟩
      case round =>
        obtain ⟨rfl, rfl⟩ := hrel
        go_wp2
        go_ret
        exact ⟨rfl, Below.refl _ _⟩
    · clear hu hv hcell'
      go_enter Try.func22, Try.ntmps22
      go_wp2
      go_loopw [5] (fun i wr => i = .int .i64 0 ∧ wr = w) (fun _ _ => 0)
      case atStart => exact ⟨rfl, rfl⟩
      case round =>
        obtain ⟨rfl, rfl⟩ := hrel
        go_wp2
        go_ret
        exact ⟨rfl, Below.refl _ _⟩
  · rcases hv.2 with ⟨h0, a', c', rfl⟩ | ⟨b', o', c', rfl, hnc', hcm', hb', hcell'⟩
    · subst h0
      clear hu hv hcell
      go_enter Try.func22, Try.ntmps22
      go_wp2
      go_loopw [5] (fun i wr => i = .int .i64 0 ∧ wr = w) (fun _ _ => 0)
      case atStart => exact ⟨rfl, rfl⟩
      case round =>
        obtain ⟨rfl, rfl⟩ := hrel
        go_wp2
        go_ret
        exact ⟨rfl, Below.refl _ _⟩
    · have HC := Lib.hid hcell
      have HC' := Lib.hid hcell'
      unfold maxLen at hcm hcm'
      clear hu hv hcell hcell'
      go_enter Try.func22, Try.ntmps22
      go_wp2
      go_loopw [5] (fun i wr => ∃ k q : Nat, k ≤ n ∧ i = .int .i64 k ∧ wr = w.drewN q) (fun i _ => n - (intOf i).toNat)
      case atStart => exact ⟨0, 0, by omega, rfl, rfl⟩
      case round =>
        obtain ⟨k, q, hk, rfl, rfl⟩ := hrel
        by_cases hlt : k < n
        · have hkl : k < xs.length := by have := HN.out; omega
          obtain ⟨u0, u1, u2, u3, u4, u5⟩ := at_Split (xs := xs) (b := b) (o := o) (w := w) (fun j hj => HC.out j (by have := HN.out; omega)) k hkl
          obtain ⟨v0, v1, v2, v3, v4, v5⟩ := at_Split (xs := xs) (b := b') (o := o') (w := w) (fun j hj => HC'.out j (by have := HN.out; omega)) k hkl
          generalize xs[k] = x at *
          have hk0 : (0 : Int) ≤ (k : Int) := Int.natCast_nonneg _
          have hk1 : (k : Int) < (n : Int) := by omega
          go_wp2
          go_quiet (fail)
          go_wp2
          go_roundw
          case rel => exact ⟨k + 1, _, by omega, by go_num, rfl⟩
          case measure => simp [intOf]; omega
        · go_wp2
          go_ret
          exact ⟨rfl, below_drewN (Below.refl _ _) _⟩

theorem eqRat (a0 a1 : Int) (w : World) : Calls Try.prog 18 #[.agg #[.int .i64 a0, .int .i64 a1], .agg #[.int .i64 a0, .int .i64 a1]] w (Gives (.bool true) w) := by
  go_enter Try.func18, Try.ntmps18
  go_wp2
  go_ret
  exact ⟨rfl, (by repeat (first | (with_reducible refine Below.drew ?_) | (with_reducible refine below_drewN ?_ _) | (with_reducible refine Below.alloc ?_ ?_ _) | (with_reducible refine Below.setCell ?_ ?_ _) | (with_reducible assumption) | (with_reducible exact Below.refl _ _) | omega | (simp <;> omega)))⟩
theorem eqSplit (a0 : Int) (a1 : Int) (a2 : Int) (a3 : Int) (a4 : Int) (a5 : Int) (w : World) : Calls Try.prog 29 #[.agg #[.int .i64 a0, .int .i64 a1, .int .i64 a2, .int .i64 a3, .int .i64 a4, .int .i64 a5], .agg #[.int .i64 a0, .int .i64 a1, .int .i64 a2, .int .i64 a3, .int .i64 a4, .int .i64 a5]] w (Gives (.bool true) w) := by
  go_enter Try.func29, Try.ntmps29
  go_wp2_with fail
  (with_reducible refine (eqRat _ _ _).mono ?_)
  rintro e w1 ⟨rfl, b1⟩
  have hz1 := b1.size
  obtain ⟨hc1, hf1⟩ := bcell b1
  have B1 : Below w.heap.size w w1 := Below.trans (by repeat (first | (with_reducible refine Below.drew ?_) | (with_reducible refine below_drewN ?_ _) | (with_reducible refine Below.alloc ?_ ?_ _) | (with_reducible refine Below.setCell ?_ ?_ _) | (with_reducible assumption) | (with_reducible exact Below.refl _ _) | omega | (simp <;> omega))) (b1.mono (by first | omega | (simp <;> omega)))
  (try simp at hz1)
  have hy1 : w.heap.size < w1.heap.size := by omega
  clear b1
  have hx1 : w.heap.size + 1 < w1.heap.size := by omega
  go_wp2_with fail
  (with_reducible refine (eqRat _ _ _).mono ?_)
  rintro e w2 ⟨rfl, b2⟩
  have hz2 := b2.size
  obtain ⟨hc2, hf2⟩ := bcell b2
  have B2 : Below w.heap.size w w2 := Below.trans (by repeat (first | (with_reducible refine Below.drew ?_) | (with_reducible refine below_drewN ?_ _) | (with_reducible refine Below.alloc ?_ ?_ _) | (with_reducible refine Below.setCell ?_ ?_ _) | (with_reducible assumption) | (with_reducible exact Below.refl _ _) | omega | (simp <;> omega))) (b2.mono (by first | omega | (simp <;> omega)))
  (try simp at hz2)
  have hy2 : w.heap.size < w2.heap.size := by omega
  clear b2
  have hx2 : w.heap.size + 1 < w2.heap.size := by omega
  go_wp2
  go_ret
  exact ⟨rfl, (by repeat (first | (with_reducible refine Below.drew ?_) | (with_reducible refine below_drewN ?_ _) | (with_reducible refine Below.alloc ?_ ?_ _) | (with_reducible refine Below.setCell ?_ ?_ _) | (with_reducible assumption) | (with_reducible exact Below.refl _ _) | omega | (simp <;> omega)))⟩

set_option maxRecDepth 100000 in
set_option maxHeartbeats 1000000 in
theorem eqSplitS (xs : List Sp) (u v : Value) (w : World) (hu : Sees w 6 u xs.length (xs.flatMap encSp)) (hv : Sees w 6 v xs.length (xs.flatMap encSp)) :
    Calls Try.prog 13 #[u, v] w (Gives (.bool true) w) := by
  obtain ⟨n, hn⟩ : ∃ n, n = xs.length := ⟨_, rfl⟩
  have HN := Lib.hid hn
  rw [← hn] at hu hv
  clear hn
  rcases hu.2 with ⟨rfl, a, c, rfl⟩ | ⟨b, o, c, rfl, hnc, hcm, hb, hcell⟩
  · rcases hv.2 with ⟨_, a', c', rfl⟩ | ⟨b', o', c', rfl, hnc', hcm', hb', hcell'⟩
    · clear hu hv
      go_enter Try.func13, Try.ntmps13
      go_wp2
      go_loopw [5] (fun i wr => i = .int .i64 0 ∧ wr = w) (fun _ _ => 0)
      case atStart => exact ⟨rfl, rfl⟩
      case round =>
        obtain ⟨rfl, rfl⟩ := hrel
        go_wp2
        go_ret
        exact ⟨rfl, Below.refl _ _⟩
    · clear hu hv hcell'
      go_enter Try.func13, Try.ntmps13
      go_wp2
      go_loopw [5] (fun i wr => i = .int .i64 0 ∧ wr = w) (fun _ _ => 0)
      case atStart => exact ⟨rfl, rfl⟩
      case round =>
        obtain ⟨rfl, rfl⟩ := hrel
        go_wp2
        go_ret
        exact ⟨rfl, Below.refl _ _⟩
  · rcases hv.2 with ⟨h0, a', c', rfl⟩ | ⟨b', o', c', rfl, hnc', hcm', hb', hcell'⟩
    · subst h0
      clear hu hv hcell
      go_enter Try.func13, Try.ntmps13
      go_wp2
      go_loopw [5] (fun i wr => i = .int .i64 0 ∧ wr = w) (fun _ _ => 0)
      case atStart => exact ⟨rfl, rfl⟩
      case round =>
        obtain ⟨rfl, rfl⟩ := hrel
        go_wp2
        go_ret
        exact ⟨rfl, Below.refl _ _⟩
    · have HC := Lib.hid hcell
      have HC' := Lib.hid hcell'
      unfold maxLen at hcm hcm'
      clear hu hv hcell hcell'
      go_enter Try.func13, Try.ntmps13
      go_wp2
      go_loopw [5] (fun i wr => ∃ k : Nat, k ≤ n ∧ i = .int .i64 k ∧ Below w.heap.size w wr) (fun i _ => n - (intOf i).toNat)
      case atStart => exact ⟨0, by omega, rfl, Below.refl _ _⟩
      case round =>
        obtain ⟨k, hk, rfl, hB⟩ := hrel
        by_cases hlt : k < n
        · have hkl : k < xs.length := by have := HN.out; omega
          obtain ⟨u0, u1, u2, u3, u4, u5⟩ := at_Split (xs := xs) (b := b) (o := o) (w := w) (fun j hj => HC.out j (by have := HN.out; omega)) k hkl
          obtain ⟨v0, v1, v2, v3, v4, v5⟩ := at_Split (xs := xs) (b := b') (o := o') (w := w) (fun j hj => HC'.out j (by have := HN.out; omega)) k hkl
          generalize xs[k] = x at *
          have hk0 : (0 : Int) ≤ (k : Int) := Int.natCast_nonneg _
          have hk1 : (k : Int) < (n : Int) := by omega
          have hbw : b < wr.heap.size := by have := hB.size; omega
          have hbw' : b' < wr.heap.size := by have := hB.size; omega
          go_wp2_with fail
          have f0 : ∀ p : Later wr.heap.size wr, p.W.cell? ⟨b, o + k * 6, none⟩ = some (.int .i64 x.u) := Later.cell ((hB.cell (p := ⟨b, _, none⟩) hb).trans u0) hbw
          have g0 : ∀ p : Later wr.heap.size wr, p.W.cell? ⟨b', o' + k * 6, none⟩ = some (.int .i64 x.u) := Later.cell ((hB.cell (p := ⟨b', _, none⟩) hb').trans v0) hbw'
          have f1 : ∀ p : Later wr.heap.size wr, p.W.cell? ⟨b, o + k * 6 + 1, none⟩ = some (.int .i64 x.l) := Later.cell ((hB.cell (p := ⟨b, _, none⟩) hb).trans u1) hbw
          have g1 : ∀ p : Later wr.heap.size wr, p.W.cell? ⟨b', o' + k * 6 + 1, none⟩ = some (.int .i64 x.l) := Later.cell ((hB.cell (p := ⟨b', _, none⟩) hb').trans v1) hbw'
          have f2 : ∀ p : Later wr.heap.size wr, p.W.cell? ⟨b, o + k * 6 + 2, none⟩ = some (.int .i64 x.p) := Later.cell ((hB.cell (p := ⟨b, _, none⟩) hb).trans u2) hbw
          have g2 : ∀ p : Later wr.heap.size wr, p.W.cell? ⟨b', o' + k * 6 + 2, none⟩ = some (.int .i64 x.p) := Later.cell ((hB.cell (p := ⟨b', _, none⟩) hb').trans v2) hbw'
          have f3 : ∀ p : Later wr.heap.size wr, p.W.cell? ⟨b, o + k * 6 + 3, none⟩ = some (.int .i64 x.q) := Later.cell ((hB.cell (p := ⟨b, _, none⟩) hb).trans u3) hbw
          have g3 : ∀ p : Later wr.heap.size wr, p.W.cell? ⟨b', o' + k * 6 + 3, none⟩ = some (.int .i64 x.q) := Later.cell ((hB.cell (p := ⟨b', _, none⟩) hb').trans v3) hbw'
          have f4 : ∀ p : Later wr.heap.size wr, p.W.cell? ⟨b, o + k * 6 + 4, none⟩ = some (.int .i64 x.s) := Later.cell ((hB.cell (p := ⟨b, _, none⟩) hb).trans u4) hbw
          have g4 : ∀ p : Later wr.heap.size wr, p.W.cell? ⟨b', o' + k * 6 + 4, none⟩ = some (.int .i64 x.s) := Later.cell ((hB.cell (p := ⟨b', _, none⟩) hb').trans v4) hbw'
          have f5 : ∀ p : Later wr.heap.size wr, p.W.cell? ⟨b, o + k * 6 + 5, none⟩ = some (.int .i64 x.t) := Later.cell ((hB.cell (p := ⟨b, _, none⟩) hb).trans u5) hbw
          have g5 : ∀ p : Later wr.heap.size wr, p.W.cell? ⟨b', o' + k * 6 + 5, none⟩ = some (.int .i64 x.t) := Later.cell ((hB.cell (p := ⟨b', _, none⟩) hb').trans v5) hbw'
          clear u0 v0 u1 v1 u2 v2 u3 v3 u4 v4 u5 v5
          refine Later.wp_region_later (wr.heap.size) (by kernel_rfl) (by kernel_rfl) ?_
          repeat (first | go_big_quiet_step ((go_at_call 29; exact later_gives (by omega) (eqSplit _ _ _ _ _ _ _))) | quiet_step ((go_at_call 29; exact later_gives (by omega) (eqSplit _ _ _ _ _ _ _))))
          refine wpQuiet_nil ?_
          rintro w1 ⟨q1, hq1⟩
          have b1 := q1.h
          rw [← hq1] at b1
          clear hq1 q1
          have B1 : Below w.heap.size w w1 := Below.trans hB (b1.mono hB.size)
          clear f0 g0 f1 g1 f2 g2 f3 g3 f4 g4 f5 g5 b1
          go_wp2
          go_roundw
          case rel => exact ⟨k + 1, by omega, by go_num, B1⟩
          case measure => simp [intOf]; omega
        · go_wp2
          go_ret
          exact ⟨rfl, hB⟩

/-- the marks of the i-th element -/
def mark (k : Int) (i : Nat) : List Value := [.int .i64 (k + 6 * (i : Int)), .int .i64 (k + 6 * (i : Int) + 1), .int .i64 (k + 6 * (i : Int) + 1 + 1), .int .i64 (k + 6 * (i : Int) + 1 + 1 + 1), .int .i64 (k + 6 * (i : Int) + 1 + 1 + 1 + 1), .int .i64 (k + 6 * (i : Int) + 1 + 1 + 1 + 1 + 1)]
def marks (k : Int) (n : Nat) : List Value := (List.range n).flatMap (mark k)
theorem marks_len (k : Int) (n : Nat) : (marks k n).length = n * 6 := by unfold marks; rw [flat_length (mark k) 6 (fun _ => rfl)]; simp
theorem marks_succ (k : Int) (n : Nat) : marks k (n + 1) = marks k n ++ mark k n := by simp [marks, List.range_succ]
theorem dropK {cs : List Value} {m n : Nat} (hl : cs.length = n * 6) (hm : m < n) : ∃ c0 c1 c2 c3 c4 c5, cs.drop (m * 6) = c0 :: c1 :: c2 :: c3 :: c4 :: c5 :: cs.drop ((m + 1) * 6) := by
  refine ⟨cs[m * 6]'(by omega), cs[m * 6 + 1]'(by omega), cs[m * 6 + 2]'(by omega), cs[m * 6 + 3]'(by omega), cs[m * 6 + 4]'(by omega), cs[m * 6 + 5]'(by omega), ?_⟩
  rw [List.drop_eq_getElem_cons (by omega), List.drop_eq_getElem_cons (by omega), List.drop_eq_getElem_cons (by omega), List.drop_eq_getElem_cons (by omega), List.drop_eq_getElem_cons (by omega), List.drop_eq_getElem_cons (by omega)]
  rw [show (m + 1) * 6 = m * 6 + 1 + 1 + 1 + 1 + 1 + 1 by omega]
theorem setK {p r : List Value} {a0 a1 a2 a3 a4 a5 c0 c1 c2 c3 c4 c5 : Value} {i : Nat} (hp : p.length = i) : ((((((p ++ c0 :: c1 :: c2 :: c3 :: c4 :: c5 :: r).set (i) a0).set (i + 1) a1).set (i + 2) a2).set (i + 3) a3).set (i + 4) a4).set (i + 5) a5 = (p ++ [a0, a1, a2, a3, a4, a5]) ++ r := by
  subst hp
  simp

/-- marks fill the row; only the row has turned -/
def Marked (base : Nat) (E : TypeId) (v : Value) (n : Nat) (k : Int) (w : World) (e : Ending) (w' : World) : Prop :=
  e = .returned (.int .i64 (k + 6 * (n : Int))) ∧ w'.ownsRow base E 6 v n (marks k n) ∧ w.grownBy w' v.ownBlock

set_option maxRecDepth 100000 in
set_option maxHeartbeats 1000000 in
theorem markSplitS (base : Nat) (v : Value) (n : Nat) (cs : List Value) (k : Int) (w : World) (hown : w.ownsRow base 40 6 v n cs) (hn : n ≤ 2000000) (k0 : 0 ≤ k) (k1 : k ≤ 1000000) :
    Calls Try.prog 14 #[v, .int .i64 k] w (Marked base 40 v n k w) := by
  have hl := hown.1
  rcases hown.2 with ⟨rfl, rfl⟩ | ⟨g, c, cur, rfl, hbg, hg, hnc, hcm, hcs, htake⟩
  · have HO := Lib.hid hown
    clear hown hl
    go_enter Try.func14, Try.ntmps14
    go_wp2
    go_loopw [1, 5] (fun kk i wr => kk = .int .i64 k ∧ i = .int .i64 0 ∧ wr = w) (fun _ _ _ => 0)
    case atStart => exact ⟨rfl, rfl, rfl⟩
    case round =>
      obtain ⟨rfl, rfl, rfl⟩ := hrel
      go_wp2
      go_ret
      exact ⟨ret_int (by simp), World.ownsRow_nil _ _ _ _, only_refl _ _⟩
  · have HO := Lib.hid hown
    have HL := Lib.hid hl
    unfold maxLen at hcm
    clear hg htake hcs hown hl
    go_enter Try.func14, Try.ntmps14
    go_wp2
    go_loopw [1, 5] (fun kk i wr => ∃ m : Nat, m ≤ n ∧ i = .int .i64 m ∧ kk = .int .i64 (k + 6 * (m : Int)) ∧ wr.ownsRow base 40 6 (.slice (some ⟨g, 0, none⟩) n c) n (marks k m ++ cs.drop (m * 6)) ∧ w.grownBy wr (some g)) (fun _ i _ => n - (intOf i).toNat)
    case atStart => exact ⟨0, by omega, rfl, by simp, by simpa [marks] using HO.out, only_refl _ _⟩
    case round =>
      obtain ⟨m, hm, rfl, rfl, hown, hG⟩ := hrel
      have hF := fun j => hown.frozenAt j
      by_cases hlt : m < n
      · obtain ⟨c0, c1, c2, c3, c4, c5, hd⟩ := dropK HL.out hlt
        have hml := marks_len k m
        have x0 : wr.cell? ⟨g, m * 6, none⟩ = some c0 := (hown.cellAt (m * 6) (by omega)).trans (by rw [hd, List.getElem?_append_right (by omega), hml]; simp)
        have x1 : wr.cell? ⟨g, m * 6 + 1, none⟩ = some c1 := (hown.cellAt (m * 6 + 1) (by omega)).trans (by rw [hd, List.getElem?_append_right (by omega), hml]; simp)
        have x2 : wr.cell? ⟨g, m * 6 + 2, none⟩ = some c2 := (hown.cellAt (m * 6 + 2) (by omega)).trans (by rw [hd, List.getElem?_append_right (by omega), hml]; simp)
        have x3 : wr.cell? ⟨g, m * 6 + 3, none⟩ = some c3 := (hown.cellAt (m * 6 + 3) (by omega)).trans (by rw [hd, List.getElem?_append_right (by omega), hml]; simp)
        have x4 : wr.cell? ⟨g, m * 6 + 4, none⟩ = some c4 := (hown.cellAt (m * 6 + 4) (by omega)).trans (by rw [hd, List.getElem?_append_right (by omega), hml]; simp)
        have x5 : wr.cell? ⟨g, m * 6 + 5, none⟩ = some c5 := (hown.cellAt (m * 6 + 5) (by omega)).trans (by rw [hd, List.getElem?_append_right (by omega), hml]; simp)
        obtain ⟨o1, g1⟩ := hown.stored (m * 6) (.int .i64 (k + 6 * (m : Int)))
        obtain ⟨o2, g2⟩ := o1.stored (m * 6 + 1) (.int .i64 (k + 6 * (m : Int) + 1))
        obtain ⟨o3, g3⟩ := o2.stored (m * 6 + 2) (.int .i64 (k + 6 * (m : Int) + 1 + 1))
        obtain ⟨o4, g4⟩ := o3.stored (m * 6 + 3) (.int .i64 (k + 6 * (m : Int) + 1 + 1 + 1))
        obtain ⟨o5, g5⟩ := o4.stored (m * 6 + 4) (.int .i64 (k + 6 * (m : Int) + 1 + 1 + 1 + 1))
        obtain ⟨o6, g6⟩ := o5.stored (m * 6 + 5) (.int .i64 (k + 6 * (m : Int) + 1 + 1 + 1 + 1 + 1))
        rw [hd, setK hml] at o6
        have hs : ∀ g', some g = some g' → some g' = some g ∨ w.heap.size ≤ g' := by rintro g' ⟨⟩; exact .inl rfl
        have GK := only_trans (only_trans (only_trans (only_trans (only_trans (only_trans hG g1 hs) g2 hs) g3 hs) g4 hs) g5 hs) g6 hs
        have OO := Lib.hid o6
        have GG := Lib.hid GK
        clear o1 g1 o2 g2 o3 g3 o4 g4 o5 g5 o6 g6 hs GK hd hml hown
        go_wp2
        go_roundw
        case rel => exact ⟨m + 1, by omega, by go_num, by go_num, by rw [marks_succ]; exact OO.out, GG.out⟩
        case measure => simp [intOf]; omega
      · obtain rfl : m = n := by omega
        have hd : cs.drop (m * 6) = [] := List.drop_eq_nil_of_le (by have := HL.out; omega)
        rw [hd, List.append_nil] at hown
        clear hd
        go_wp2
        go_ret
        exact ⟨rfl, hown, hG⟩

theorem mark_cells {w : World} {k : Int} {n b o : Nat} (hcell : ∀ j, j < n * 6 → w.cell? ⟨b, o + j, none⟩ = (marks k n)[j]?) (m : Nat) (hm : m < n) : w.cell? ⟨b, o + m * 6, none⟩ = some (.int .i64 (k + 6 * (m : Int))) ∧ w.cell? ⟨b, o + m * 6 + 1, none⟩ = some (.int .i64 (k + 6 * (m : Int) + 1)) ∧ w.cell? ⟨b, o + m * 6 + 2, none⟩ = some (.int .i64 (k + 6 * (m : Int) + 1 + 1)) ∧ w.cell? ⟨b, o + m * 6 + 3, none⟩ = some (.int .i64 (k + 6 * (m : Int) + 1 + 1 + 1)) ∧ w.cell? ⟨b, o + m * 6 + 4, none⟩ = some (.int .i64 (k + 6 * (m : Int) + 1 + 1 + 1 + 1)) ∧ w.cell? ⟨b, o + m * 6 + 5, none⟩ = some (.int .i64 (k + 6 * (m : Int) + 1 + 1 + 1 + 1 + 1)) := by
  have g := fun j (hj : j < 6) => (hcell (m * 6 + j) (by omega)).trans (flat_get (mark k) 6 (fun _ => rfl) (List.range n) m j (by simpa using hm) hj)
  simp only [List.getElem_range] at g
  exact ⟨g 0 (by omega), g 1 (by omega), g 2 (by omega), g 3 (by omega), g 4 (by omega), g 5 (by omega)⟩

set_option maxRecDepth 100000 in
set_option maxHeartbeats 1000000 in
theorem heldSplitS (v : Value) (n : Nat) (k : Int) (w : World) (hs : Sees w 6 v n (marks k n)) (hn : n ≤ 2000000) (k0 : 0 ≤ k) (k1 : k ≤ 1000000) :
    Calls Try.prog 15 #[v, .int .i64 k] w fun e w' => e = .returned (.int .i64 (k + 6 * (n : Int))) ∧ w = w' := by
  rcases hs.2 with ⟨rfl, a, c, rfl⟩ | ⟨b, o, c, rfl, hnc, hcm, hb, hcell⟩
  · clear hs
    go_enter Try.func15, Try.ntmps15
    go_wp2
    go_loopw [1, 5] (fun kk i wr => kk = .int .i64 k ∧ i = .int .i64 0 ∧ wr = w) (fun _ _ _ => 0)
    case atStart => exact ⟨rfl, rfl, rfl⟩
    case round =>
      obtain ⟨rfl, rfl, rfl⟩ := hrel
      go_wp2
      go_ret
      exact ⟨ret_int (by simp), rfl⟩
  · have HC := Lib.hid hcell
    unfold maxLen at hcm
    clear hs hcell
    go_enter Try.func15, Try.ntmps15
    go_wp2
    go_loopw [1, 5] (fun kk i wr => ∃ m : Nat, m ≤ n ∧ i = .int .i64 m ∧ kk = .int .i64 (k + 6 * (m : Int)) ∧ wr = w) (fun _ i _ => n - (intOf i).toNat)
    case atStart => exact ⟨0, by omega, rfl, by simp, rfl⟩
    case round =>
      obtain ⟨m, hm, rfl, rfl, rfl⟩ := hrel
      by_cases hlt : m < n
      · obtain ⟨x0, x1, x2, x3, x4, x5⟩ := mark_cells HC.out m hlt
        go_wp2
        go_roundw
        case rel => exact ⟨m + 1, by omega, by go_num, by go_num, trivial⟩
        case measure => simp [intOf]; omega
      · obtain rfl : m = n := by omega
        go_wp2
        go_ret
        exact ⟨rfl, rfl⟩

theorem toRat (a0 a1 : Int) (w : World) : Calls Try.prog 42 #[.agg #[.int .i64 a0, .int .i64 a1]] w (Gives (.agg #[.int .i64 a0, .int .i64 a1]) w) := by
  go_enter Try.func42, Try.ntmps42
  go_wp2
  refine bodyPost_ret (v := .agg #[.int .i64 a0, .int .i64 a1]) (by simp [results, Try.results42, go_sem, *, lt2, lt3, lt4, lt5, lt6]) rfl ⟨rfl, (by repeat (first | (with_reducible refine Below.drew ?_) | (with_reducible refine below_drewN ?_ _) | (with_reducible refine Below.alloc ?_ ?_ _) | (with_reducible refine Below.setCell ?_ ?_ _) | (with_reducible assumption) | (with_reducible exact Below.refl _ _) | omega | (simp <;> omega)))⟩
theorem drop_Split {cs : List Value} {m n : Nat} (hl : cs.length = n * 6) (hm : m < n) : ∃ c0 c1 c2 c3 c4 c5, cs.drop (m * 6) = c0 :: c1 :: c2 :: c3 :: c4 :: c5 :: cs.drop ((m + 1) * 6) := by
  refine ⟨cs[m * 6]'(by omega), cs[m * 6 + 1]'(by omega), cs[m * 6 + 2]'(by omega), cs[m * 6 + 3]'(by omega), cs[m * 6 + 4]'(by omega), cs[m * 6 + 5]'(by omega), ?_⟩
  rw [List.drop_eq_getElem_cons (by omega), List.drop_eq_getElem_cons (by omega), List.drop_eq_getElem_cons (by omega), List.drop_eq_getElem_cons (by omega), List.drop_eq_getElem_cons (by omega), List.drop_eq_getElem_cons (by omega)]
  rw [show (m + 1) * 6 = m * 6 + 1 + 1 + 1 + 1 + 1 + 1 by omega]
theorem set_Split {p r : List Value} {a0 a1 a2 a3 a4 a5 c0 c1 c2 c3 c4 c5 : Value} {i : Nat} (hp : p.length = i) : ((((((p ++ c0 :: c1 :: c2 :: c3 :: c4 :: c5 :: r).set (i) a0).set (i + 1) a1).set (i + 2) a2).set (i + 3) a3).set (i + 4) a4).set (i + 5) a5 = (p ++ [a0, a1, a2, a3, a4, a5]) ++ r := by
  subst hp
  simp
theorem infoSplit : (Try.prog.info? 40).map (fun i => (i.zero, i.size, i.bytes)) = some (some (.agg #[.int .i64 0, .int .i64 0, .int .i64 0, .int .i64 0, .int .i64 0, .int .i64 0]), 6, 48) := by kernel_rfl
theorem toSplit (a0 : Int) (a1 : Int) (a2 : Int) (a3 : Int) (a4 : Int) (a5 : Int) (w : World) : Calls Try.prog 28 #[.agg #[.int .i64 a0, .int .i64 a1, .int .i64 a2, .int .i64 a3, .int .i64 a4, .int .i64 a5]] w (Gives (.agg #[.int .i64 a0, .int .i64 a1, .int .i64 a2, .int .i64 a3, .int .i64 a4, .int .i64 a5]) w) := by
  go_enter Try.func28, Try.ntmps28
  go_wp2_with fail
  (with_reducible refine (toRat _ _ _).mono ?_)
  rintro e w1 ⟨rfl, b1⟩
  have hz1 := b1.size
  obtain ⟨hc1, hf1⟩ := bcell b1
  have B1 : Below w.heap.size w w1 := Below.trans (by repeat (first | (with_reducible refine Below.drew ?_) | (with_reducible refine below_drewN ?_ _) | (with_reducible refine Below.alloc ?_ ?_ _) | (with_reducible refine Below.setCell ?_ ?_ _) | (with_reducible assumption) | (with_reducible exact Below.refl _ _) | omega | (simp <;> omega))) (b1.mono (by first | omega | (simp <;> omega)))
  (try simp at hz1)
  have hy1 : w.heap.size < w1.heap.size := by omega
  clear b1
  have hx1 : w.heap.size + 1 < w1.heap.size := by omega
  have hx2 : w.heap.size + 1 + 1 < w1.heap.size := by omega
  go_wp2_with fail
  (with_reducible refine (toRat _ _ _).mono ?_)
  rintro e w2 ⟨rfl, b2⟩
  have hz2 := b2.size
  obtain ⟨hc2, hf2⟩ := bcell b2
  have B2 : Below w.heap.size w w2 := Below.trans (by repeat (first | (with_reducible refine Below.drew ?_) | (with_reducible refine below_drewN ?_ _) | (with_reducible refine Below.alloc ?_ ?_ _) | (with_reducible refine Below.setCell ?_ ?_ _) | (with_reducible assumption) | (with_reducible exact Below.refl _ _) | omega | (simp <;> omega))) (b2.mono (by first | omega | (simp <;> omega)))
  (try simp at hz2)
  have hy2 : w.heap.size < w2.heap.size := by omega
  clear b2
  have hx3 : w.heap.size + 1 < w2.heap.size := by omega
  have hx4 : w.heap.size + 1 + 1 < w2.heap.size := by omega
  go_wp2
  refine bodyPost_ret (v := .agg #[.int .i64 a0, .int .i64 a1, .int .i64 a2, .int .i64 a3, .int .i64 a4, .int .i64 a5]) (by simp [results, Try.results28, go_sem, *, lt2, lt3, lt4, lt5, lt6]) rfl ⟨rfl, (by repeat (first | (with_reducible refine Below.drew ?_) | (with_reducible refine below_drewN ?_ _) | (with_reducible refine Below.alloc ?_ ?_ _) | (with_reducible refine Below.setCell ?_ ?_ _) | (with_reducible assumption) | (with_reducible exact Below.refl _ _) | omega | (simp <;> omega)))⟩

def szv (n : Nat) : Int := if n ≤ 1048576 then 1048576 - (n : Int) else -1
theorem szSplitS (v : Option Addr) (n c : Nat) (w : World) (hn : n ≤ 9223372036854775807) : Calls Try.prog 9 #[.slice v n c, .int .i64 1048576] w fun e w' => e = .returned (.int .i64 (szv n)) ∧ w = w' := by
  by_cases h : (n : Int) ≤ 1048576
  · have H := Lib.hid (show szv n = 1048576 - (n : Int) by unfold szv; rw [if_pos (by omega)])
    go_enter Try.func9, Try.ntmps9
    go_wp2
    go_ret
    exact ⟨ret_int H.out.symm, rfl⟩
  · have H := Lib.hid (show szv n = -1 by unfold szv; rw [if_neg (by omega)])
    go_enter Try.func9, Try.ntmps9
    go_wp2
    go_ret
    exact ⟨ret_int H.out.symm, rfl⟩

set_option maxRecDepth 100000 in
set_option maxHeartbeats 2000000 in
theorem toSplitS (xs : List Sp) (v : Value) (w : World) (hs : Sees w 6 v xs.length (xs.flatMap encSp)) (hx : xs.length ≤ 1048576) :
    Calls Try.prog 11 #[v] w (GivesRow 40 6 xs.length (xs.flatMap encSp) w) := by
  obtain ⟨i0, hi, hz0, hz1, hz2⟩ := info_parts infoSplit
  have HI := Lib.hid hi
  have HZ0 := Lib.hid hz0
  have HZ1 := Lib.hid hz1
  have HZ2 := Lib.hid hz2
  clear hi hz0 hz1 hz2
  obtain ⟨n, hn⟩ : ∃ n, n = xs.length := ⟨_, rfl⟩
  have HN := Lib.hid hn
  rw [← hn] at hs hx ⊢
  clear hn
  obtain ⟨a0, c0, rfl⟩ : ∃ a c, v = .slice a n c := by
    rcases hs.2 with ⟨rfl, a, c, rfl⟩ | ⟨b, o, c, rfl, _⟩
    · exact ⟨_, _, rfl⟩
    · exact ⟨_, _, rfl⟩
  have HS := Lib.hid hs
  clear hs
  have hx' : (n : Int) ≤ 1048576 := by omega
  go_enter Try.func11, Try.ntmps11
  go_wp2_with (first | (at_make; refine wpList_make_full _ rfl _ _ 24 rfl w.heap.size 40 i0 (.agg #[.int .i64 0, .int .i64 0, .int .i64 0, .int .i64 0, .int .i64 0, .int .i64 0]) 6 Try.underlying24 HI.out HZ0.out HZ1.out .i64 .i64 _ _ n rfl rfl rfl rfl (by rw [HZ2.out]; omega) (by unfold maxLen; omega) (Nat.le_refl _) ?_; intro w0 hown0 hgrow0))
  have HO := Lib.hid hown0
  have B0 : Below w.heap.size w w0 := (Below.refl w.heap.size w).grown hgrow0 (Nat.le_refl _) (fun j hj => by cases hj)
  have HG := Lib.hid B0
  have hl0 := hown0.1
  have HL := Lib.hid hl0
  obtain ⟨cs, hcs⟩ : ∃ cs, cs = (madeCells (Value.agg #[.int .i64 0, .int .i64 0, .int .i64 0, .int .i64 0, .int .i64 0, .int .i64 0]).cells (n * 6)).toList := ⟨_, rfl⟩
  rw [← hcs] at HO HL
  clear hcs hown0 hgrow0 hl0 B0
  obtain ⟨g, hg⟩ : ∃ g, g = w.heap.size := ⟨_, rfl⟩
  have HGW := Lib.hid hg
  rw [← hg] at HO
  have hgw : w.heap.size ≤ g := by omega
  have hg0 := (HO.out.lt g rfl).2
  rw [← hg]
  clear hg
  go_loopw [4] (fun i wr => ∃ m : Nat, m ≤ n ∧ i = .int .i64 m ∧ wr.ownsRow w.heap.size 40 6 (.slice (some ⟨g, 0, none⟩) n n) n ((xs.take m).flatMap encSp ++ cs.drop (m * 6)) ∧ Below w.heap.size w wr) (fun i _ => n - (intOf i).toNat)
  case atStart => exact ⟨0, by omega, rfl, by have := HO.out; simpa [HGW.out] using this, HG.out⟩
  case round =>
    obtain ⟨m, hm, rfl, hown, hB⟩ := hrel
    by_cases hlt : m < n
    · rcases HS.out.2 with ⟨h0, _⟩ | ⟨b, o, c, hv, hnc, hcm, hb, hcell⟩
      · omega
      · cases hv
        have hkl : m < xs.length := by have := HN.out; omega
        unfold maxLen at hcm
        obtain ⟨u0, u1, u2, u3, u4, u5⟩ := at_Split (xs := xs) (b := b) (o := o) (w := wr) (fun j hj => (hB.cell (p := ⟨b, o + j, none⟩) hb).trans (hcell j (by have := HN.out; omega))) m hkl
        have HF := Lib.hid (flat_take encSp xs m hkl)
        have hml : ((xs.take m).flatMap encSp).length = m * 6 := by rw [flat_length encSp 6 encSp_len, List.length_take]; congr 1; omega
        obtain ⟨c0, c1, c2, c3, c4, c5, hd⟩ := drop_Split HL.out hlt
        have HXL := Lib.hid (show xs[m] = xs[m] from rfl)
        generalize xs[m] = x at *
        clear hcell HXL
        go_wp2_with fail
        (with_reducible refine (toSplit _ _ _ _ _ _ _).mono ?_)
        rintro e w1 ⟨rfl, b1⟩
        have hown1 := own_below hown b1 (Nat.le_refl _)
        have hB1 := hB.trans (b1.mono hB.size)
        have hF := fun j => hown1.frozenAt j
        have x0 : w1.cell? ⟨g, m * 6, none⟩ = some c0 := (hown1.cellAt (m * 6) (by omega)).trans (by rw [hd, List.getElem?_append_right (by omega), hml]; simp)
        have x1 : w1.cell? ⟨g, m * 6 + 1, none⟩ = some c1 := (hown1.cellAt (m * 6 + 1) (by omega)).trans (by rw [hd, List.getElem?_append_right (by omega), hml]; simp)
        have x2 : w1.cell? ⟨g, m * 6 + 2, none⟩ = some c2 := (hown1.cellAt (m * 6 + 2) (by omega)).trans (by rw [hd, List.getElem?_append_right (by omega), hml]; simp)
        have x3 : w1.cell? ⟨g, m * 6 + 3, none⟩ = some c3 := (hown1.cellAt (m * 6 + 3) (by omega)).trans (by rw [hd, List.getElem?_append_right (by omega), hml]; simp)
        have x4 : w1.cell? ⟨g, m * 6 + 4, none⟩ = some c4 := (hown1.cellAt (m * 6 + 4) (by omega)).trans (by rw [hd, List.getElem?_append_right (by omega), hml]; simp)
        have x5 : w1.cell? ⟨g, m * 6 + 5, none⟩ = some c5 := (hown1.cellAt (m * 6 + 5) (by omega)).trans (by rw [hd, List.getElem?_append_right (by omega), hml]; simp)
        obtain ⟨o1, g1⟩ := hown1.stored (m * 6) (.int .i64 x.u)
        obtain ⟨o2, g2⟩ := o1.stored (m * 6 + 1) (.int .i64 x.l)
        obtain ⟨o3, g3⟩ := o2.stored (m * 6 + 2) (.int .i64 x.p)
        obtain ⟨o4, g4⟩ := o3.stored (m * 6 + 3) (.int .i64 x.q)
        obtain ⟨o5, g5⟩ := o4.stored (m * 6 + 4) (.int .i64 x.s)
        obtain ⟨o6, g6⟩ := o5.stored (m * 6 + 5) (.int .i64 x.t)
        rw [hd, set_Split hml] at o6
        have hs : ∀ g', some g = some g' → w.heap.size ≤ g' := by rintro g' ⟨⟩; exact hgw
        have hz1 := hB1.size
        have bb1 := below_only hB1 g1 (by have := hB1.size; omega) hs
        have bb2 := below_only bb1 g2 (by have := bb1.size; omega) hs
        have bb3 := below_only bb2 g3 (by have := bb2.size; omega) hs
        have bb4 := below_only bb3 g4 (by have := bb3.size; omega) hs
        have bb5 := below_only bb4 g5 (by have := bb4.size; omega) hs
        have bb6 := below_only bb5 g6 (by have := bb5.size; omega) hs
        have OO := Lib.hid o6
        have GG := Lib.hid bb6
        clear o1 g1 u0 bb1 o2 g2 u1 bb2 o3 g3 u2 bb3 o4 g4 u3 bb4 o5 g5 u4 bb5 o6 g6 u5 bb6 hs hd hml hown hown1 b1 hB
        go_wp2
        go_roundw
        case rel => exact ⟨m + 1, by omega, by go_num, by rw [HF.out]; exact OO.out, GG.out⟩
        case measure => simp [intOf]; omega
    · obtain rfl : m = n := by omega
      have hd : cs.drop (m * 6) = [] := List.drop_eq_nil_of_le (by have := HL.out; omega)
      have ht : xs.take m = xs := List.take_of_length_le (by have := HN.out; omega)
      rw [hd, List.append_nil, ht] at hown
      clear hd ht
      go_wp2
      go_ret
      exact ⟨_, rfl, hown, hB⟩

end Go.Proofs.Ytdejlinldocfjaa.RowsSplit
