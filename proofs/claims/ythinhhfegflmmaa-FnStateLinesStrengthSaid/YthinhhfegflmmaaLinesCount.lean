/-
  Contracts of StateLines, the program's and the reference's: both count the allowed pairs.
-/
import Derived.Test.YthinhhfegflmmaaAllowed
import Derived.Test.YthinhhfegflmmaaStatesEq
namespace Go.Proofs.Ythinhhfegflmmaa.LinesCount
open Go.RowKit Go.Proofs.Ythinhhfegflmmaa.Spin Go.Proofs.Ythinhhfegflmmaa.Row Go.Proofs.Ythinhhfegflmmaa.Coupled Go.Proofs.Ythinhhfegflmmaa.Allowed Go.Proofs.Ythinhhfegflmmaa.States Go.Proofs.Ythinhhfegflmmaa.StatesEq
set_option linter.unusedVariables false
set_option linter.unusedSimpArgs false

/-- is there a line between two levels? -/
def lineB (s1 l1 s2 l2 : Int) (j1 j2 : Int) : Bool := allowed s1 l1 j1 false s2 l2 j2 true
/-- how many lines there are from one level -/
def rowOf (s1 l1 s2 l2 : Int) (js : List Int) (j : Int) : Nat := js.countP (lineB s1 l1 s2 l2 j)
/-- how many lines there are in all -/
def allOf (s1 l1 s2 l2 : Int) (is js : List Int) : Nat := (is.map (rowOf s1 l1 s2 l2 js)).sum
def lines (s1 l1 s2 l2 : Int) : Nat := allOf s1 l1 s2 l2 (levelJs s1 l1) (levelJs s2 l2)

theorem row_le (s1 l1 s2 l2 : Int) (js : List Int) (j : Int) : rowOf s1 l1 s2 l2 js j ≤ js.length := List.countP_le_length
theorem all_le (s1 l1 s2 l2 : Int) (is js : List Int) : allOf s1 l1 s2 l2 is js ≤ is.length * js.length := by
  unfold allOf
  induction is with
  | nil => simp
  | cons x is ih =>
    have := row_le s1 l1 s2 l2 js x
    simp only [List.map_cons, List.sum_cons, List.length_cons, Nat.succ_mul]
    omega
theorem row_take (s1 l1 s2 l2 : Int) (js : List Int) (j : Int) (m : Nat) (hm : m < js.length) : rowOf s1 l1 s2 l2 (js.take (m + 1)) j = rowOf s1 l1 s2 l2 (js.take m) j + if lineB s1 l1 s2 l2 j js[m] then 1 else 0 := by
  unfold rowOf
  rw [List.take_succ_eq_append_getElem hm, List.countP_append]
  simp
theorem all_take (s1 l1 s2 l2 : Int) (is js : List Int) (k : Nat) (hk : k < is.length) : allOf s1 l1 s2 l2 (is.take (k + 1)) js = allOf s1 l1 s2 l2 (is.take k) js + rowOf s1 l1 s2 l2 js is[k] := by
  unfold allOf
  rw [List.take_succ_eq_append_getElem hk, List.map_append, List.sum_append]
  simp only [List.map_cons, List.map_nil, List.sum_cons, List.sum_nil, Nat.add_zero]
theorem take_le_mul (s1 l1 s2 l2 : Int) (is js : List Int) (k : Nat) : allOf s1 l1 s2 l2 (is.take k) js ≤ is.length * js.length := by
  refine Nat.le_trans (all_le _ _ _ _ _ _) (Nat.mul_le_mul_right _ ?_)
  rw [List.length_take]
  omega

/-- a state in a block of its own -/
def Four (w : World) (b : Nat) (s l j : Int) (o : Bool) : Prop := w.cell? ⟨b, 0, none⟩ = some (.int .i64 s) ∧ w.cell? ⟨b, 1, none⟩ = some (.int .i64 l) ∧ w.cell? ⟨b, 2, none⟩ = some (.int .i64 j) ∧ w.cell? ⟨b, 3, none⟩ = some (.bool o)
theorem Four.below {w w' : World} {b : Nat} {s l j : Int} {o : Bool} {B : Nat} (h : Four w b s l j o) (hb : Below B w w') (hB : b < B) : Four w' b s l j o :=
  ⟨(hb.cell (p := ⟨b, 0, none⟩) hB).trans h.1, (hb.cell (p := ⟨b, 1, none⟩) hB).trans h.2.1, (hb.cell (p := ⟨b, 2, none⟩) hB).trans h.2.2.1, (hb.cell (p := ⟨b, 3, none⟩) hB).trans h.2.2.2⟩

set_option maxRecDepth 100000 in
set_option maxHeartbeats 4000000 in
theorem sStateLines (s1 l1 s2 l2 : Int) (w : World) :
    Calls Try.prog 24 #[.agg #[.int .i64 s1, .int .i64 l1], .agg #[.int .i64 s2, .int .i64 l2]] w (Gives (.int .i64 (lines s1 l1 s2 l2)) w) := by
  have hcm1 := levelJs_le s1 l1
  have hcm2 := levelJs_le s2 l2
  unfold lines
  have hle := all_le s1 l1 s2 l2 (levelJs s1 l1) (levelJs s2 l2)
  go_enter Try.func24, Try.ntmps24
  go_wp2_with fail
  (with_reducible refine (sStatesOf _ _ _ _).mono ?_)
  rintro e w1 ⟨v1, rfl, O1, b1⟩
  have B1 : Below w.heap.size w w1 := Below.trans (by repeat (first | (with_reducible refine Below.drew ?_) | (with_reducible refine below_drewN ?_ _) | (with_reducible refine Below.alloc ?_ ?_ _) | (with_reducible refine Below.setCell ?_ ?_ _) | (with_reducible assumption) | (with_reducible exact Below.refl _ _) | omega | (simp <;> omega))) (b1.mono (by simp; omega))
  have hz1 := b1.size
  obtain ⟨hc1, hf1⟩ := bcell b1
  simp at hz1
  clear b1
  go_wp2_with fail
  (with_reducible refine (sStatesOf _ _ _ _).mono ?_)
  rintro e w2 ⟨v2, rfl, O2, b2⟩
  have B2 := B1.trans (b2.mono B1.size)
  have P2 := own_below O1 b2 (Nat.le_refl _)
  clear b2 O1 hc1 hf1 hz1 B1
  have S1 := Sees.of_own P2
  have S2 := Sees.of_own O2
  have tl := fun k => take_le_mul s1 l1 s2 l2 (levelJs s1 l1) (levelJs s2 l2) k
  have hmul : (levelJs s1 l1).length * (levelJs s2 l2).length ≤ 25 * 25 := Nat.mul_le_mul hcm1 hcm2
  generalize levelJs s1 l1 = is at *
  generalize levelJs s2 l2 = js at *
  have TL := Lib.hid tl
  obtain ⟨n, hn⟩ : ∃ n, n = is.length := ⟨_, rfl⟩
  obtain ⟨m, hm⟩ : ∃ m, m = js.length := ⟨_, rfl⟩
  have HN := Lib.hid hn
  have HM := Lib.hid hm
  have HMUL := Lib.hid hmul
  rw [← hn] at S1 hcm1
  rw [← hm] at S2 hcm2
  clear P2 O2 hn hm tl hmul hle
  rcases S1.2 with ⟨rfl, a, c, rfl⟩ | ⟨b, o, c, rfl, hnc, hcm', hb, hcell⟩
  · have HI := Lib.hid (List.eq_nil_of_length_eq_zero HN.out.symm)
    clear S1 S2
    go_wp2
    go_loopw [7, 8] (fun t i wr => t = .int .i64 0 ∧ i = .int .i64 0 ∧ wr = w2) (fun _ _ _ => 0)
    case atStart => exact ⟨rfl, rfl, rfl⟩
    case round =>
      obtain ⟨rfl, rfl, rfl⟩ := hrel
      go_wp2
      go_ret
      exact ⟨ret_int (by rw [HI.out]; rfl), B2⟩
  · unfold maxLen at hcm'
    have C1 := Lib.hid hcell
    clear hcell S1
    go_wp2
    go_loopw [7, 8] (fun t i wr => ∃ k : Nat, k ≤ n ∧ i = .int .i64 k ∧ t = .int .i64 (allOf s1 l1 s2 l2 (is.take k) js : Nat) ∧ Below w2.heap.size w2 wr) (fun _ i _ => n - (intOf i).toNat)
    case atStart => exact ⟨0, by omega, rfl, rfl, Below.refl _ _⟩
    case round =>
      obtain ⟨k, hk, rfl, rfl, hB⟩ := hrel
      have tk := TL.out k
      have tm := HMUL.out
      obtain ⟨wo, rfl⟩ : ∃ wo : World, wo = wr := ⟨_, rfl⟩
      by_cases hlt : k < n
      · have hkl : k < is.length := by have := HN.out; omega
        have hT := all_take s1 l1 s2 l2 is js k hkl
        have cI := state_cells (s := s1) (l := l1) (odd := false) (js := is) (b := b) (o := o) (w := w2) (fun j hj => C1.out j (by have := HN.out; omega)) k hkl
        have tk1 := TL.out (k + 1)
        have HTK := Lib.hid hT
        generalize is[k] = ik at *
        rw [hT] at tk1
        have rl := row_le s1 l1 s2 l2 js ik
        clear hT
        generalize allOf s1 l1 s2 l2 (is.take k) js = t0 at *
        rcases S2.2 with ⟨rfl, a', c', rfl⟩ | ⟨b', o', c', rfl, hnd, hdm, hb', hdell⟩
        · have HJ := Lib.hid (List.eq_nil_of_length_eq_zero HM.out.symm)
          clear S2 cI
          go_wp2
          go_loopw [7, 9] (fun t i wr => t = .int .i64 t0 ∧ i = .int .i64 0 ∧ wr = wo) (fun _ _ _ => 0)
          case atStart => exact ⟨rfl, rfl, rfl⟩
          case round =>
            obtain ⟨rfl, rfl, rfl⟩ := hrel
            go_wp2
            go_roundw
            case rel => exact ⟨k + 1, by omega, by go_num, by rw [HTK.out, HJ.out]; rfl, hB⟩
            case measure => simp [intOf]; omega
        · unfold maxLen at hdm
          have C2 := Lib.hid hdell
          clear hdell S2
          go_wp2
          go_loopw [7, 9] (fun t i wr => ∃ q : Nat, q ≤ m ∧ i = .int .i64 q ∧ t = .int .i64 ((t0 + rowOf s1 l1 s2 l2 (js.take q) ik : Nat) : Int) ∧ Below w2.heap.size w2 wr) (fun _ i _ => m - (intOf i).toNat)
          case atStart => exact ⟨0, by omega, rfl, rfl, hB⟩
          case round =>
            obtain ⟨q, hq, rfl, rfl, hB'⟩ := hrel
            by_cases hltq : q < m
            · have hql : q < js.length := by have := HM.out; omega
              have cJ := state_cells (s := s2) (l := l2) (odd := true) (js := js) (b := b') (o := o') (w := w2) (fun j hj => C2.out j (by have := HM.out; omega)) q hql
              have HR := Lib.hid (row_take s1 l1 s2 l2 js ik q hql)
              have rq := row_le s1 l1 s2 l2 (js.take q) ik
              have rq' : (js.take q).length ≤ q := List.length_take_le _ _
              generalize js[q] = jq at *
              have KS := Lib.hid (fun (W' : World) (h : Below w2.heap.size w2 W') => show W'.cell? ⟨b, o + k * 4, none⟩ = some (.int .i64 s1) ∧ W'.cell? ⟨b, o + k * 4 + 1, none⟩ = some (.int .i64 l1) ∧ W'.cell? ⟨b, o + k * 4 + 2, none⟩ = some (.int .i64 ik) ∧ W'.cell? ⟨b, o + k * 4 + 3, none⟩ = some (.bool false) ∧ W'.cell? ⟨b', o' + q * 4, none⟩ = some (.int .i64 s2) ∧ W'.cell? ⟨b', o' + q * 4 + 1, none⟩ = some (.int .i64 l2) ∧ W'.cell? ⟨b', o' + q * 4 + 2, none⟩ = some (.int .i64 jq) ∧ W'.cell? ⟨b', o' + q * 4 + 3, none⟩ = some (.bool true) from
                ⟨(h.cell (p := ⟨b, _, none⟩) hb).trans cI.1, (h.cell (p := ⟨b, _, none⟩) hb).trans cI.2.1, (h.cell (p := ⟨b, _, none⟩) hb).trans cI.2.2.1, (h.cell (p := ⟨b, _, none⟩) hb).trans cI.2.2.2, (h.cell (p := ⟨b', _, none⟩) hb').trans cJ.1, (h.cell (p := ⟨b', _, none⟩) hb').trans cJ.2.1, (h.cell (p := ⟨b', _, none⟩) hb').trans cJ.2.2.1, (h.cell (p := ⟨b', _, none⟩) hb').trans cJ.2.2.2⟩)
              have CI := Lib.hid cI
              clear cI cJ
              generalize rowOf s1 l1 s2 l2 (js.take q) ik = rr at *
              have h0 : (0 : Int) ≤ (k : Int) := Int.natCast_nonneg _
              have h1 : (k : Int) < (n : Int) := by omega
              have h2 : (0 : Int) ≤ (q : Int) := Int.natCast_nonneg _
              have h3 : (q : Int) < (m : Int) := by omega
              go_wp2_with fail
              go_region_held3 (fun w' => w'.cell? ⟨b, o + k * 4, none⟩ = some (.int .i64 s1) ∧ w'.cell? ⟨b, o + k * 4 + 1, none⟩ = some (.int .i64 l1) ∧ w'.cell? ⟨b, o + k * 4 + 2, none⟩ = some (.int .i64 ik) ∧ w'.cell? ⟨b, o + k * 4 + 3, none⟩ = some (.bool false) ∧ w'.cell? ⟨b', o' + q * 4, none⟩ = some (.int .i64 s2) ∧ w'.cell? ⟨b', o' + q * 4 + 1, none⟩ = some (.int .i64 l2) ∧ w'.cell? ⟨b', o' + q * 4 + 2, none⟩ = some (.int .i64 jq) ∧ w'.cell? ⟨b', o' + q * 4 + 3, none⟩ = some (.bool true))
                (first | exact KS.out _ b5 | exact KS.out _ hB'.drew)
                (first | (go_at_call 20; (with_reducible refine (sStateAllowed _ _ _ _ _ _ _ _ _).mono ?_); rintro e w5 ⟨rfl, b5'⟩; have b5 : Below w2.heap.size w2 w5 := hB'.trans (Below.trans ((Below.refl _ _).drew) (b5'.mono hB'.size))))
              clear KS
              cases hal : allowed s1 l1 ik false s2 l2 jq true
              · go_wp2
                go_roundw
                case rel => exact ⟨q + 1, by omega, by go_num, by rw [HR.out]; simp [lineB, hal], b5⟩
                case measure => simp [intOf]; omega
              · go_wp2
                go_roundw
                case rel => exact ⟨q + 1, by omega, by go_num, by rw [HR.out]; simp [lineB, hal]; go_num, b5⟩
                case measure => simp [intOf]; omega
            · obtain rfl : q = m := by omega
              have e : js.take q = js := List.take_of_length_le (by have := HM.out; omega)
              rw [e]
              clear e
              go_wp2
              go_roundw
              case rel => exact ⟨k + 1, by omega, by go_num, by rw [HTK.out], hB'⟩
              case measure => simp [intOf]; omega
      · obtain rfl : k = n := by omega
        have e : is.take k = is := List.take_of_length_le (by have := HN.out; omega)
        rw [e]
        clear e tk
        go_wp2
        go_ret
        exact ⟨rfl, B2.trans (hB.mono B2.size)⟩

set_option maxRecDepth 100000 in
set_option maxHeartbeats 4000000 in
theorem iStateLines (s1 l1 s2 l2 : Int) (w : World) :
    Calls Try.prog 23 #[.agg #[.int .i64 s1, .int .i64 l1], .agg #[.int .i64 s2, .int .i64 l2]] w (Gives (.int .i64 (lines s1 l1 s2 l2)) w) := by
  have hcm1 := levelJs_le s1 l1
  have hcm2 := levelJs_le s2 l2
  unfold lines
  obtain ⟨js, hjs⟩ : ∃ js, js = levelJs s2 l2 := ⟨_, rfl⟩
  have HJS := Lib.hid hjs
  rw [← hjs] at hcm2 ⊢
  clear hjs
  go_enter Try.func23, Try.ntmps23
  go_wp2_with fail
  (with_reducible refine (iStatesOf _ _ _ _).mono ?_)
  rintro e w2 ⟨v1, rfl, O1, b1⟩
  have B2 : Below w.heap.size w w2 := Below.trans (by repeat (first | (with_reducible refine Below.drew ?_) | (with_reducible refine below_drewN ?_ _) | (with_reducible refine Below.alloc ?_ ?_ _) | (with_reducible refine Below.setCell ?_ ?_ _) | (with_reducible assumption) | (with_reducible exact Below.refl _ _) | omega | (simp <;> omega))) (b1.mono (by simp; omega))
  have hz1 : w.heap.size + 1 < w2.heap.size := by have h := b1.size; simp at h; omega
  have p0 : w2.cell? ⟨w.heap.size + 1, 0, none⟩ = some (.int .i64 s2) := (b1.cell (p := ⟨w.heap.size + 1, 0, none⟩) (by simp)).trans (by simp)
  have p1 : w2.cell? ⟨w.heap.size + 1, 1, none⟩ = some (.int .i64 l2) := (b1.cell (p := ⟨w.heap.size + 1, 1, none⟩) (by simp)).trans (by simp)
  have P0 := Lib.hid p0
  have P1 := Lib.hid p1
  clear b1 p0 p1
  have S1 := Sees.of_own O1
  have tl := fun k => take_le_mul s1 l1 s2 l2 (levelJs s1 l1) js k
  have hmul : (levelJs s1 l1).length * js.length ≤ 25 * 25 := Nat.mul_le_mul hcm1 hcm2
  generalize levelJs s1 l1 = is at *
  have TL := Lib.hid tl
  obtain ⟨n, hn⟩ : ∃ n, n = is.length := ⟨_, rfl⟩
  have HN := Lib.hid hn
  have HMUL := Lib.hid hmul
  rw [← hn] at S1 hcm1
  clear O1 hn tl hmul
  rcases S1.2 with ⟨rfl, a, c, rfl⟩ | ⟨b, o, c, rfl, hnc, hcm', hb, hcell⟩
  · have HI := Lib.hid (List.eq_nil_of_length_eq_zero HN.out.symm)
    clear S1
    go_wp2
    go_loopw [5, 13] (fun t i wr => t = .int .i64 0 ∧ i = .int .i64 0 ∧ wr = w2) (fun _ _ _ => 0)
    case atStart => exact ⟨rfl, rfl, rfl⟩
    case round =>
      obtain ⟨rfl, rfl, rfl⟩ := hrel
      go_wp2
      go_ret
      exact ⟨ret_int (by rw [HI.out]; rfl), B2⟩
  · unfold maxLen at hcm'
    have C1 := Lib.hid hcell
    clear hcell S1
    go_wp2
    go_loopw [5, 13] (fun t i wr => ∃ k : Nat, k ≤ n ∧ i = .int .i64 k ∧ t = .int .i64 (allOf s1 l1 s2 l2 (is.take k) js : Nat) ∧ Below w2.heap.size w2 wr) (fun _ i _ => n - (intOf i).toNat)
    case atStart => exact ⟨0, by omega, rfl, rfl, Below.refl _ _⟩
    case round =>
      obtain ⟨k, hk, rfl, rfl, hB⟩ := hrel
      have tk := TL.out k
      have tm := HMUL.out
      have hsz := hB.size
      obtain ⟨wo, rfl⟩ : ∃ wo : World, wo = wr := ⟨_, rfl⟩
      by_cases hlt : k < n
      · have hkl : k < is.length := by have := HN.out; omega
        have hT := all_take s1 l1 s2 l2 is js k hkl
        have cI := state_cells (s := s1) (l := l1) (odd := false) (js := is) (b := b) (o := o) (w := wo) (fun j hj => (hB.cell (p := ⟨b, o + j, none⟩) hb).trans (C1.out j (by have := HN.out; omega))) k hkl
        obtain ⟨c0, c1, c2, c3⟩ := cI
        have p0 : wo.cell? ⟨w.heap.size + 1, 0, none⟩ = some (.int .i64 s2) := (hB.cell (p := ⟨w.heap.size + 1, 0, none⟩) (by omega)).trans P0.out
        have p1 : wo.cell? ⟨w.heap.size + 1, 1, none⟩ = some (.int .i64 l2) := (hB.cell (p := ⟨w.heap.size + 1, 1, none⟩) (by omega)).trans P1.out
        have hx : w.heap.size + 1 < wo.heap.size := by omega
        have tk1 := TL.out (k + 1)
        have HTK := Lib.hid hT
        generalize is[k] = ik at *
        rw [hT] at tk1
        have rl := row_le s1 l1 s2 l2 js ik
        clear hT
        generalize allOf s1 l1 s2 l2 (is.take k) js = t0 at *
        go_wp2_with fail
        (with_reducible refine (iStatesOf _ _ _ _).mono ?_)
        rintro e w3 ⟨v3, rfl, O3, b3⟩
        have B3 : Below w2.heap.size w2 w3 := hB.trans (Below.trans ((Below.refl _ wo).alloc hB.size _) (b3.mono (by simp; omega)))
        have hz3 := b3.size
        simp at hz3
        have X3 : Four w3 wo.heap.size s1 l1 ik false := ⟨(b3.cell (p := ⟨wo.heap.size, 0, none⟩) (by simp)).trans (by simp), (b3.cell (p := ⟨wo.heap.size, 1, none⟩) (by simp)).trans (by simp), (b3.cell (p := ⟨wo.heap.size, 2, none⟩) (by simp)).trans (by simp), (b3.cell (p := ⟨wo.heap.size, 3, none⟩) (by simp)).trans (by simp)⟩
        have hlx : wo.heap.size < w3.heap.size := by omega
        rw [← HJS.out] at O3
        have S2 := Sees.of_own O3
        clear b3 O3 c0 c1 c2 c3 p0 p1 hB
        obtain ⟨m, hm⟩ : ∃ m, m = js.length := ⟨_, rfl⟩
        have HM := Lib.hid hm
        rw [← hm] at S2 hcm2
        clear hm
        rcases S2.2 with ⟨rfl, a', c', rfl⟩ | ⟨b', o', c', rfl, hnd, hdm, hb', hdell⟩
        · have HJ := Lib.hid (List.eq_nil_of_length_eq_zero HM.out.symm)
          clear S2
          go_wp2
          go_loopw [5, 20] (fun t i wr => t = .int .i64 t0 ∧ i = .int .i64 0 ∧ wr = w3) (fun _ _ _ => 0)
          case atStart => exact ⟨rfl, rfl, rfl⟩
          case round =>
            obtain ⟨rfl, rfl, rfl⟩ := hrel
            go_wp2
            go_roundw
            case rel => exact ⟨k + 1, by omega, by go_num, by rw [HTK.out, HJ.out]; rfl, B3⟩
            case measure => simp [intOf]; omega
        · unfold maxLen at hdm
          have C2 := Lib.hid hdell
          clear hdell S2
          go_wp2
          go_loopw [5, 20] (fun t i wr => ∃ q : Nat, q ≤ m ∧ i = .int .i64 q ∧ t = .int .i64 ((t0 + rowOf s1 l1 s2 l2 (js.take q) ik : Nat) : Int) ∧ Below w3.heap.size w3 wr) (fun _ i _ => m - (intOf i).toNat)
          case atStart => exact ⟨0, by omega, rfl, rfl, Below.refl _ _⟩
          case round =>
            obtain ⟨q, hq, rfl, rfl, hB'⟩ := hrel
            have hs' := hB'.size
            by_cases hltq : q < m
            · have hql : q < js.length := by have := HM.out; omega
              obtain ⟨d0, d1, d2, d3⟩ := state_cells (s := s2) (l := l2) (odd := true) (js := js) (b := b') (o := o') (w := wr) (fun j hj => (hB'.cell (p := ⟨b', o' + j, none⟩) hb').trans (C2.out j (by have := HM.out; omega))) q hql
              obtain ⟨x0, x1, x2, x3⟩ := X3.below hB' hlx
              have HR := Lib.hid (row_take s1 l1 s2 l2 js ik q hql)
              have rq := row_le s1 l1 s2 l2 (js.take q) ik
              have rq' : (js.take q).length ≤ q := List.length_take_le _ _
              generalize js[q] = jq at *
              generalize rowOf s1 l1 s2 l2 (js.take q) ik = rr at *
              have hlr : wo.heap.size < wr.heap.size := by omega
              go_wp2_with fail
              (with_reducible refine (iStateAllowed _ _ _ _ _ _ _ _ _).mono ?_)
              rintro e w5 ⟨rfl, b5'⟩
              have b5 : Below w3.heap.size w3 w5 := hB'.trans (Below.trans ((Below.refl _ wr).alloc hB'.size _) (b5'.mono (by simp; omega)))
              clear b5' d0 d1 d2 d3 x0 x1 x2 x3 hB' hs' hlr
              cases hal : allowed s1 l1 ik false s2 l2 jq true
              · go_wp2
                go_roundw
                case rel => exact ⟨q + 1, by omega, by go_num, by rw [HR.out]; simp [lineB, hal], b5⟩
                case measure => simp [intOf]; omega
              · go_wp2
                go_roundw
                case rel => exact ⟨q + 1, by omega, by go_num, by rw [HR.out]; simp [lineB, hal]; go_num, b5⟩
                case measure => simp [intOf]; omega
            · obtain rfl : q = m := by omega
              have e : js.take q = js := List.take_of_length_le (by have := HM.out; omega)
              rw [e]
              clear e
              go_wp2
              go_roundw
              case rel => exact ⟨k + 1, by omega, by go_num, by rw [HTK.out], B3.trans (hB'.mono B3.size)⟩
              case measure => simp [intOf]; omega
      · obtain rfl : k = n := by omega
        have e : is.take k = is := List.take_of_length_le (by have := HN.out; omega)
        rw [e]
        clear e tk
        go_wp2
        go_ret
        exact ⟨rfl, B2.trans (hB.mono B2.size)⟩

end Go.Proofs.Ythinhhfegflmmaa.LinesCount
