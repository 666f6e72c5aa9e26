/-
  Contracts of the laws' helpers on slices of states: comparison, marks.
-/
import Derived.Test.YtdlioofnoibidaaStates
import Derived.WalkSpells
namespace Go.Proofs.Ytdlioofnoibidaa.StatesEq
open Go.RowKit Go.Proofs.Ytdlioofnoibidaa.Spin Go.Proofs.Ytdlioofnoibidaa.Row Go.Proofs.Ytdlioofnoibidaa.Coupled Go.Proofs.Ytdlioofnoibidaa.States
set_option linter.unusedVariables false
set_option linter.unusedSimpArgs false

/-- four cells of the k-th element of a row -/
theorem row4 {w : World} {cs : List Value} {n b o : Nat} (hl : cs.length = n * 4) (hcell : ∀ j, j < n * 4 → w.cell? ⟨b, o + j, none⟩ = cs[j]?) (k : Nat) (hk : k < n) :
    ∃ c0 c1 c2 c3, cs[k * 4]? = some c0 ∧ cs[k * 4 + 1]? = some c1 ∧ cs[k * 4 + 2]? = some c2 ∧ cs[k * 4 + 3]? = some c3 ∧
      w.cell? ⟨b, o + k * 4, none⟩ = some c0 ∧ w.cell? ⟨b, o + k * 4 + 1, none⟩ = some c1 ∧ w.cell? ⟨b, o + k * 4 + 2, none⟩ = some c2 ∧ w.cell? ⟨b, o + k * 4 + 3, none⟩ = some c3 := by
  have g := fun j (hj : j < 4) => hcell (k * 4 + j) (by omega)
  have e := fun j (hj : j < 4) => List.getElem?_eq_getElem (l := cs) (i := k * 4 + j) (by omega)
  exact ⟨_, _, _, _, e 0 (by omega), e 1 (by omega), e 2 (by omega), e 3 (by omega), (g 0 (by omega)).trans (e 0 (by omega)), (g 1 (by omega)).trans (e 1 (by omega)), (g 2 (by omega)).trans (e 2 (by omega)), (g 3 (by omega)).trans (e 3 (by omega))⟩

/-- the cells of the k-th state in its row -/
theorem state_cells {w : World} {s l : Int} {odd : Bool} {js : List Int} {b o : Nat} (hcell : ∀ j, j < js.length * 4 → w.cell? ⟨b, o + j, none⟩ = (js.flatMap (encS s l odd))[j]?) (k : Nat) (hk : k < js.length) :
    w.cell? ⟨b, o + k * 4, none⟩ = some (.int .i64 s) ∧ w.cell? ⟨b, o + k * 4 + 1, none⟩ = some (.int .i64 l) ∧ w.cell? ⟨b, o + k * 4 + 2, none⟩ = some (.int .i64 js[k]) ∧ w.cell? ⟨b, o + k * 4 + 3, none⟩ = some (.bool odd) := by
  have g := fun j (hj : j < 4) => (hcell (k * 4 + j) (by omega)).trans (flat_get (encS s l odd) 4 (encS_len s l odd) js k j hk hj)
  exact ⟨g 0 (by omega), g 1 (by omega), g 2 (by omega), g 3 (by omega)⟩

set_option maxHeartbeats 1000000 in
theorem sameStates (s l : Int) (odd : Bool) (js : List Int) (u v : Value) (w : World) (hu : Sees w 4 u js.length (js.flatMap (encS s l odd))) (hv : Sees w 4 v js.length (js.flatMap (encS s l odd))) :
    Calls Try.prog 20 #[u, v] w (Gives (.bool true) w) := by
  obtain ⟨n, hn⟩ : ∃ n, n = js.length := ⟨_, rfl⟩
  have HN := Lib.hid hn
  rw [← hn] at hu hv
  clear hn
  rcases hu.2 with ⟨rfl, a, c, rfl⟩ | ⟨b, o, c, rfl, hnc, hcm, hb, hcell⟩
  · rcases hv.2 with ⟨_, a', c', rfl⟩ | ⟨b', o', c', rfl, hnc', hcm', hb', hcell'⟩
    · clear hu hv
      go_enter Try.func20, Try.ntmps20
      go_wp2
      go_loopw [5] (fun i wr => i = .int .i64 0 ∧ wr = w) (fun _ _ => 0)
      case atStart => exact ⟨rfl, rfl⟩
      case round =>
        obtain ⟨rfl, rfl⟩ := hrel
        go_wp2
        go_ret
        exact ⟨rfl, Below.refl _ _⟩
    · clear hu hv hcell'
      go_enter Try.func20, Try.ntmps20
      go_wp2
      go_loopw [5] (fun i wr => i = .int .i64 0 ∧ wr = w) (fun _ _ => 0)
      case atStart => exact ⟨rfl, rfl⟩
      case round =>
        obtain ⟨rfl, rfl⟩ := hrel
        go_wp2
        go_ret
        exact ⟨rfl, Below.refl _ _⟩
  · rcases hv.2 with ⟨h0, a', c', rfl⟩ | ⟨b', o', c', rfl, hnc', hcm', hb', hcell'⟩
    · subst h0
      clear hu hv hcell
      go_enter Try.func20, Try.ntmps20
      go_wp2
      go_loopw [5] (fun i wr => i = .int .i64 0 ∧ wr = w) (fun _ _ => 0)
      case atStart => exact ⟨rfl, rfl⟩
      case round =>
        obtain ⟨rfl, rfl⟩ := hrel
        go_wp2
        go_ret
        exact ⟨rfl, Below.refl _ _⟩
    · have HC := Lib.hid hcell
      have HC' := Lib.hid hcell'
      unfold maxLen at hcm hcm'
      clear hu hv hcell hcell'
      go_enter Try.func20, Try.ntmps20
      go_wp2
      go_loopw [5] (fun i wr => ∃ k q : Nat, k ≤ n ∧ i = .int .i64 k ∧ wr = w.drewN q) (fun i _ => n - (intOf i).toNat)
      case atStart => exact ⟨0, 0, by omega, rfl, rfl⟩
      case round =>
        obtain ⟨k, q, hk, rfl, rfl⟩ := hrel
        by_cases hlt : k < n
        · have hkl : k < js.length := by have := HN.out; omega
          obtain ⟨u0, u1, u2, u3⟩ := state_cells (s := s) (l := l) (odd := odd) (js := js) (b := b) (o := o) (w := w) (fun j hj => HC.out j (by have := HN.out; omega)) k hkl
          obtain ⟨v0, v1, v2, v3⟩ := state_cells (s := s) (l := l) (odd := odd) (js := js) (b := b') (o := o') (w := w) (fun j hj => HC'.out j (by have := HN.out; omega)) k hkl
          generalize js[k] = jk at *
          have hk0 : (0 : Int) ≤ (k : Int) := Int.natCast_nonneg _
          have hk1 : (k : Int) < (n : Int) := by omega
          go_wp2
          go_quiet (fail)
          go_wp2
          go_roundw
          case rel => exact ⟨k + 1, _, by omega, by go_num, rfl⟩
          case measure => simp [intOf]; omega
        · go_wp2
          go_ret
          exact ⟨rfl, below_drewN (Below.refl _ _) _⟩

theorem eqTerm (s l : Int) (w : World) : Calls Try.prog 58 #[.agg #[.int .i64 s, .int .i64 l], .agg #[.int .i64 s, .int .i64 l]] w (Gives (.bool true) w) := by
  go_enter Try.func58, Try.ntmps58
  go_wp2
  go_ret
  exact ⟨rfl, (by repeat (first | (with_reducible refine Below.drew ?_) | (with_reducible refine below_drewN ?_ _) | (with_reducible refine Below.alloc ?_ ?_ _) | (with_reducible refine Below.setCell ?_ ?_ _) | (with_reducible assumption) | (with_reducible exact Below.refl _ _) | omega | (simp <;> omega)))⟩
theorem eqLevel (s l j : Int) (w : World) : Calls Try.prog 54 #[.agg #[.int .i64 s, .int .i64 l, .int .i64 j], .agg #[.int .i64 s, .int .i64 l, .int .i64 j]] w (Gives (.bool true) w) := by
  go_enter Try.func54, Try.ntmps54
  go_wp2_with fail
  (with_reducible refine (eqTerm _ _ _).mono ?_)
  rintro e w1 ⟨rfl, b1⟩
  have hz1 := b1.size
  obtain ⟨hc1, hf1⟩ := bcell b1
  have B1 : Below w.heap.size w w1 := Below.trans (by repeat (first | (with_reducible refine Below.drew ?_) | (with_reducible refine below_drewN ?_ _) | (with_reducible refine Below.alloc ?_ ?_ _) | (with_reducible refine Below.setCell ?_ ?_ _) | (with_reducible assumption) | (with_reducible exact Below.refl _ _) | omega | (simp <;> omega))) (b1.mono (by first | omega | (simp <;> omega)))
  (try simp at hz1)
  have hy1 : w.heap.size < w1.heap.size := by omega
  clear b1
  go_wp2
  go_ret
  exact ⟨rfl, (by repeat (first | (with_reducible refine Below.drew ?_) | (with_reducible refine below_drewN ?_ _) | (with_reducible refine Below.alloc ?_ ?_ _) | (with_reducible refine Below.setCell ?_ ?_ _) | (with_reducible assumption) | (with_reducible exact Below.refl _ _) | omega | (simp <;> omega)))⟩
theorem eqState (s l j : Int) (o : Bool) (w : World) : Calls Try.prog 44 #[.agg #[.int .i64 s, .int .i64 l, .int .i64 j, .bool o], .agg #[.int .i64 s, .int .i64 l, .int .i64 j, .bool o]] w (Gives (.bool true) w) := by
  go_enter Try.func44, Try.ntmps44
  go_wp2_with fail
  (with_reducible refine (eqLevel _ _ _ _).mono ?_)
  rintro e w1 ⟨rfl, b1⟩
  have hz1 := b1.size
  obtain ⟨hc1, hf1⟩ := bcell b1
  have B1 : Below w.heap.size w w1 := Below.trans (by repeat (first | (with_reducible refine Below.drew ?_) | (with_reducible refine below_drewN ?_ _) | (with_reducible refine Below.alloc ?_ ?_ _) | (with_reducible refine Below.setCell ?_ ?_ _) | (with_reducible assumption) | (with_reducible exact Below.refl _ _) | omega | (simp <;> omega))) (b1.mono (by first | omega | (simp <;> omega)))
  (try simp at hz1)
  have hy1 : w.heap.size < w1.heap.size := by omega
  clear b1
  have hx1 : w.heap.size + 1 < w1.heap.size := by omega
  go_wp2
  go_ret
  exact ⟨rfl, (by repeat (first | (with_reducible refine Below.drew ?_) | (with_reducible refine below_drewN ?_ _) | (with_reducible refine Below.alloc ?_ ?_ _) | (with_reducible refine Below.setCell ?_ ?_ _) | (with_reducible assumption) | (with_reducible exact Below.refl _ _) | omega | (simp <;> omega)))⟩
set_option maxHeartbeats 1000000 in
theorem eqStateS (s l : Int) (odd : Bool) (js : List Int) (u v : Value) (w : World) (hu : Sees w 4 u js.length (js.flatMap (encS s l odd))) (hv : Sees w 4 v js.length (js.flatMap (encS s l odd))) :
    Calls Try.prog 23 #[u, v] w (Gives (.bool true) w) := by
  obtain ⟨n, hn⟩ : ∃ n, n = js.length := ⟨_, rfl⟩
  have HN := Lib.hid hn
  rw [← hn] at hu hv
  clear hn
  rcases hu.2 with ⟨rfl, a, c, rfl⟩ | ⟨b, o, c, rfl, hnc, hcm, hb, hcell⟩
  · rcases hv.2 with ⟨_, a', c', rfl⟩ | ⟨b', o', c', rfl, hnc', hcm', hb', hcell'⟩
    · clear hu hv
      go_enter Try.func23, Try.ntmps23
      go_wp2
      go_loopw [5] (fun i wr => i = .int .i64 0 ∧ wr = w) (fun _ _ => 0)
      case atStart => exact ⟨rfl, rfl⟩
      case round =>
        obtain ⟨rfl, rfl⟩ := hrel
        go_wp2
        go_ret
        exact ⟨rfl, Below.refl _ _⟩
    · clear hu hv hcell'
      go_enter Try.func23, Try.ntmps23
      go_wp2
      go_loopw [5] (fun i wr => i = .int .i64 0 ∧ wr = w) (fun _ _ => 0)
      case atStart => exact ⟨rfl, rfl⟩
      case round =>
        obtain ⟨rfl, rfl⟩ := hrel
        go_wp2
        go_ret
        exact ⟨rfl, Below.refl _ _⟩
  · rcases hv.2 with ⟨h0, a', c', rfl⟩ | ⟨b', o', c', rfl, hnc', hcm', hb', hcell'⟩
    · subst h0
      clear hu hv hcell
      go_enter Try.func23, Try.ntmps23
      go_wp2
      go_loopw [5] (fun i wr => i = .int .i64 0 ∧ wr = w) (fun _ _ => 0)
      case atStart => exact ⟨rfl, rfl⟩
      case round =>
        obtain ⟨rfl, rfl⟩ := hrel
        go_wp2
        go_ret
        exact ⟨rfl, Below.refl _ _⟩
    · have HC := Lib.hid hcell
      have HC' := Lib.hid hcell'
      unfold maxLen at hcm hcm'
      clear hu hv hcell hcell'
      go_enter Try.func23, Try.ntmps23
      go_wp2
      go_loopw [5] (fun i wr => ∃ k : Nat, k ≤ n ∧ i = .int .i64 k ∧ Below w.heap.size w wr) (fun i _ => n - (intOf i).toNat)
      case atStart => exact ⟨0, by omega, rfl, Below.refl _ _⟩
      case round =>
        obtain ⟨k, hk, rfl, hB⟩ := hrel
        by_cases hlt : k < n
        · have hkl : k < js.length := by have := HN.out; omega
          obtain ⟨u0, u1, u2, u3⟩ := state_cells (s := s) (l := l) (odd := odd) (js := js) (b := b) (o := o) (w := w) (fun j hj => HC.out j (by have := HN.out; omega)) k hkl
          obtain ⟨v0, v1, v2, v3⟩ := state_cells (s := s) (l := l) (odd := odd) (js := js) (b := b') (o := o') (w := w) (fun j hj => HC'.out j (by have := HN.out; omega)) k hkl
          generalize js[k] = jk at *
          have hk0 : (0 : Int) ≤ (k : Int) := Int.natCast_nonneg _
          have hk1 : (k : Int) < (n : Int) := by omega
          have KS := Lib.hid (fun (W' : World) (h : Below w.heap.size w W') => show W'.cell? ⟨b, o + k * 4, none⟩ = some (.int .i64 s) ∧ W'.cell? ⟨b, o + k * 4 + 1, none⟩ = some (.int .i64 l) ∧ W'.cell? ⟨b, o + k * 4 + 2, none⟩ = some (.int .i64 jk) ∧ W'.cell? ⟨b, o + k * 4 + 3, none⟩ = some (.bool odd) ∧ W'.cell? ⟨b', o' + k * 4, none⟩ = some (.int .i64 s) ∧ W'.cell? ⟨b', o' + k * 4 + 1, none⟩ = some (.int .i64 l) ∧ W'.cell? ⟨b', o' + k * 4 + 2, none⟩ = some (.int .i64 jk) ∧ W'.cell? ⟨b', o' + k * 4 + 3, none⟩ = some (.bool odd) from
            ⟨(h.cell (p := ⟨b, o + k * 4, none⟩) hb).trans u0, (h.cell (p := ⟨b, o + k * 4 + 1, none⟩) hb).trans u1, (h.cell (p := ⟨b, o + k * 4 + 2, none⟩) hb).trans u2, (h.cell (p := ⟨b, o + k * 4 + 3, none⟩) hb).trans u3, (h.cell (p := ⟨b', o' + k * 4, none⟩) hb').trans v0, (h.cell (p := ⟨b', o' + k * 4 + 1, none⟩) hb').trans v1, (h.cell (p := ⟨b', o' + k * 4 + 2, none⟩) hb').trans v2, (h.cell (p := ⟨b', o' + k * 4 + 3, none⟩) hb').trans v3⟩)
          clear u0 u1 u2 u3 v0 v1 v2 v3
          go_wp2_with fail
          go_region_held3 (fun w' => w'.cell? ⟨b, o + k * 4, none⟩ = some (.int .i64 s) ∧ w'.cell? ⟨b, o + k * 4 + 1, none⟩ = some (.int .i64 l) ∧ w'.cell? ⟨b, o + k * 4 + 2, none⟩ = some (.int .i64 jk) ∧ w'.cell? ⟨b, o + k * 4 + 3, none⟩ = some (.bool odd) ∧ w'.cell? ⟨b', o' + k * 4, none⟩ = some (.int .i64 s) ∧ w'.cell? ⟨b', o' + k * 4 + 1, none⟩ = some (.int .i64 l) ∧ w'.cell? ⟨b', o' + k * 4 + 2, none⟩ = some (.int .i64 jk) ∧ w'.cell? ⟨b', o' + k * 4 + 3, none⟩ = some (.bool odd))
            (first | exact KS.out _ b1 | exact KS.out _ hB.drew)
            (first | (go_at_call 44; (with_reducible refine (eqState _ _ _ _ _).mono ?_); rintro e w1 ⟨rfl, b1'⟩; have b1 := hB.trans (Below.trans ((Below.refl _ _).drew) (b1'.mono hB.size))))
          clear KS
          go_wp2
          go_roundw
          case rel => exact ⟨k + 1, by omega, by go_num, b1⟩
          case measure => simp [intOf]; omega
        · go_wp2
          go_ret
          exact ⟨rfl, hB⟩

/-- the marks of the i-th element -/
def mark4 (k : Int) (i : Nat) : List Value := [.int .i64 (k + 4 * (i : Int)), .int .i64 (k + 4 * (i : Int) + 1), .int .i64 (k + 4 * (i : Int) + 1 + 1), .bool ((k + 4 * (i : Int) + 1 + 1 + 1) % 3 == 0)]
def marks4 (k : Int) (n : Nat) : List Value := (List.range n).flatMap (mark4 k)
theorem marks4_len (k : Int) (n : Nat) : (marks4 k n).length = n * 4 := by unfold marks4; rw [flat_length (mark4 k) 4 (fun _ => rfl)]; simp
theorem marks4_succ (k : Int) (n : Nat) : marks4 k (n + 1) = marks4 k n ++ mark4 k n := by simp [marks4, List.range_succ]
theorem drop4 {cs : List Value} {m n : Nat} (hl : cs.length = n * 4) (hm : m < n) : ∃ c0 c1 c2 c3, cs.drop (m * 4) = c0 :: c1 :: c2 :: c3 :: cs.drop ((m + 1) * 4) := by
  refine ⟨cs[m * 4]'(by omega), cs[m * 4 + 1]'(by omega), cs[m * 4 + 2]'(by omega), cs[m * 4 + 3]'(by omega), ?_⟩
  rw [List.drop_eq_getElem_cons (by omega), List.drop_eq_getElem_cons (by omega), List.drop_eq_getElem_cons (by omega), List.drop_eq_getElem_cons (by omega)]
  rw [show (m + 1) * 4 = m * 4 + 1 + 1 + 1 + 1 by omega]
theorem set4 {p r : List Value} {a b c d c0 c1 c2 c3 : Value} {i : Nat} (hp : p.length = i) : ((((p ++ c0 :: c1 :: c2 :: c3 :: r).set i a).set (i + 1) b).set (i + 2) c).set (i + 3) d = (p ++ [a, b, c, d]) ++ r := by
  subst hp
  simp

/-- marks fill the row; only the row has turned -/
def Marked4 (base : Nat) (E : TypeId) (v : Value) (n : Nat) (k : Int) (w : World) (e : Ending) (w' : World) : Prop :=
  e = .returned (.int .i64 (k + 4 * (n : Int))) ∧ w'.ownsRow base E 4 v n (marks4 k n) ∧ w.grownBy w' v.ownBlock

set_option maxHeartbeats 1000000 in
theorem markStateS (base : Nat) (v : Value) (n : Nat) (cs : List Value) (k : Int) (w : World) (hown : w.ownsRow base 33 4 v n cs) (hn : n ≤ 1000000) (k0 : 0 ≤ k) (k1 : k ≤ 1000000) :
    Calls Try.prog 24 #[v, .int .i64 k] w (Marked4 base 33 v n k w) := by
  have hl := hown.1
  rcases hown.2 with ⟨rfl, rfl⟩ | ⟨g, c, cur, rfl, hbg, hg, hnc, hcm, hcs, htake⟩
  · have HO := Lib.hid hown
    clear hown hl
    go_enter Try.func24, Try.ntmps24
    go_wp2
    go_loopw [1, 5] (fun kk i wr => kk = .int .i64 k ∧ i = .int .i64 0 ∧ wr = w) (fun _ _ _ => 0)
    case atStart => exact ⟨rfl, rfl, rfl⟩
    case round =>
      obtain ⟨rfl, rfl, rfl⟩ := hrel
      go_wp2
      go_ret
      exact ⟨ret_int (by simp), World.ownsRow_nil _ _ _ _, only_refl _ _⟩
  · have HO := Lib.hid hown
    have HL := Lib.hid hl
    unfold maxLen at hcm
    clear hg htake hcs hown hl
    go_enter Try.func24, Try.ntmps24
    go_wp2
    go_loopw [1, 5] (fun kk i wr => ∃ m : Nat, m ≤ n ∧ i = .int .i64 m ∧ kk = .int .i64 (k + 4 * (m : Int)) ∧ wr.ownsRow base 33 4 (.slice (some ⟨g, 0, none⟩) n c) n (marks4 k m ++ cs.drop (m * 4)) ∧ w.grownBy wr (some g)) (fun _ i _ => n - (intOf i).toNat)
    case atStart => exact ⟨0, by omega, rfl, by simp, by simpa [marks4] using HO.out, only_refl _ _⟩
    case round =>
      obtain ⟨m, hm, rfl, rfl, hown, hG⟩ := hrel
      have hF := fun j => hown.frozenAt j
      by_cases hlt : m < n
      · obtain ⟨c0, c1, c2, c3, hd⟩ := drop4 HL.out hlt
        have hml := marks4_len k m
        have x0 : wr.cell? ⟨g, m * 4, none⟩ = some c0 := (hown.cellAt (m * 4) (by omega)).trans (by rw [hd, List.getElem?_append_right (by omega), hml]; simp)
        have x1 : wr.cell? ⟨g, m * 4 + 1, none⟩ = some c1 := (hown.cellAt (m * 4 + 1) (by omega)).trans (by rw [hd, List.getElem?_append_right (by omega), hml]; simp)
        have x2 : wr.cell? ⟨g, m * 4 + 2, none⟩ = some c2 := (hown.cellAt (m * 4 + 2) (by omega)).trans (by rw [hd, List.getElem?_append_right (by omega), hml]; simp)
        have x3 : wr.cell? ⟨g, m * 4 + 3, none⟩ = some c3 := (hown.cellAt (m * 4 + 3) (by omega)).trans (by rw [hd, List.getElem?_append_right (by omega), hml]; simp)
        obtain ⟨o1, g1⟩ := hown.stored (m * 4) (.int .i64 (k + 4 * (m : Int)))
        obtain ⟨o2, g2⟩ := o1.stored (m * 4 + 1) (.int .i64 (k + 4 * (m : Int) + 1))
        obtain ⟨o3, g3⟩ := o2.stored (m * 4 + 2) (.int .i64 (k + 4 * (m : Int) + 1 + 1))
        obtain ⟨o4, g4⟩ := o3.stored (m * 4 + 3) (.bool ((k + 4 * (m : Int) + 1 + 1 + 1) % 3 == 0))
        rw [hd, set4 hml] at o4
        have hs : ∀ g', some g = some g' → some g' = some g ∨ w.heap.size ≤ g' := by rintro g' ⟨⟩; exact .inl rfl
        have G4 := only_trans (only_trans (only_trans (only_trans hG g1 hs) g2 hs) g3 hs) g4 hs
        have O4 := Lib.hid o4
        have GG := Lib.hid G4
        clear o1 g1 o2 g2 o3 g3 o4 g4 hs G4 hd hml hown
        go_wp2
        go_roundw
        case rel => exact ⟨m + 1, by omega, by go_num, by go_num, by rw [marks4_succ]; exact O4.out, GG.out⟩
        case measure => simp [intOf]; omega
      · obtain rfl : m = n := by omega
        have hd : cs.drop (m * 4) = [] := List.drop_eq_nil_of_le (by have := HL.out; omega)
        rw [hd, List.append_nil] at hown
        clear hd
        go_wp2
        go_ret
        exact ⟨rfl, hown, hG⟩

theorem mark_cells {w : World} {k : Int} {n b o : Nat} (hcell : ∀ j, j < n * 4 → w.cell? ⟨b, o + j, none⟩ = (marks4 k n)[j]?) (m : Nat) (hm : m < n) :
    w.cell? ⟨b, o + m * 4, none⟩ = some (.int .i64 (k + 4 * (m : Int))) ∧ w.cell? ⟨b, o + m * 4 + 1, none⟩ = some (.int .i64 (k + 4 * (m : Int) + 1)) ∧ w.cell? ⟨b, o + m * 4 + 2, none⟩ = some (.int .i64 (k + 4 * (m : Int) + 1 + 1)) ∧ w.cell? ⟨b, o + m * 4 + 3, none⟩ = some (.bool ((k + 4 * (m : Int) + 1 + 1 + 1) % 3 == 0)) := by
  have g := fun j (hj : j < 4) => (hcell (m * 4 + j) (by omega)).trans (flat_get (mark4 k) 4 (fun _ => rfl) (List.range n) m j (by simpa using hm) hj)
  simp only [List.getElem_range] at g
  exact ⟨g 0 (by omega), g 1 (by omega), g 2 (by omega), g 3 (by omega)⟩

set_option maxHeartbeats 1000000 in
theorem heldStateS (v : Value) (n : Nat) (k : Int) (w : World) (hs : Sees w 4 v n (marks4 k n)) (hn : n ≤ 1000000) (k0 : 0 ≤ k) (k1 : k ≤ 1000000) :
    Calls Try.prog 25 #[v, .int .i64 k] w fun e w' => e = .returned (.int .i64 (k + 4 * (n : Int))) ∧ w = w' := by
  rcases hs.2 with ⟨rfl, a, c, rfl⟩ | ⟨b, o, c, rfl, hnc, hcm, hb, hcell⟩
  · clear hs
    go_enter Try.func25, Try.ntmps25
    go_wp2
    go_loopw [1, 5] (fun kk i wr => kk = .int .i64 k ∧ i = .int .i64 0 ∧ wr = w) (fun _ _ _ => 0)
    case atStart => exact ⟨rfl, rfl, rfl⟩
    case round =>
      obtain ⟨rfl, rfl, rfl⟩ := hrel
      go_wp2
      go_ret
      exact ⟨ret_int (by simp), rfl⟩
  · have HC := Lib.hid hcell
    unfold maxLen at hcm
    clear hs hcell
    go_enter Try.func25, Try.ntmps25
    go_wp2
    go_loopw [1, 5] (fun kk i wr => ∃ m : Nat, m ≤ n ∧ i = .int .i64 m ∧ kk = .int .i64 (k + 4 * (m : Int)) ∧ wr = w) (fun _ i _ => n - (intOf i).toNat)
    case atStart => exact ⟨0, by omega, rfl, by simp, rfl⟩
    case round =>
      obtain ⟨m, hm, rfl, rfl, rfl⟩ := hrel
      by_cases hlt : m < n
      · obtain ⟨x0, x1, x2, x3⟩ := mark_cells HC.out m hlt
        go_wp2
        go_roundw
        case rel => exact ⟨m + 1, by omega, by go_num, by go_num, trivial⟩
        case measure => simp [intOf]; omega
      · obtain rfl : m = n := by omega
        go_wp2
        go_ret
        exact ⟨rfl, rfl⟩

end Go.Proofs.Ytdlioofnoibidaa.StatesEq
