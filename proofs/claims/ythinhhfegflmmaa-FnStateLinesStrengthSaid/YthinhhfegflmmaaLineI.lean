/-
  LineStrength: the program's, from the contract of the sums.
-/
import Derived.Test.YthinhhfegflmmaaSixI
namespace Go.Proofs.Ythinhhfegflmmaa.LineI
open Go.RowKit Go.Proofs.Ythinhhfegflmmaa.RatP Go.Proofs.Ythinhhfegflmmaa.Rat Go.Proofs.Ythinhhfegflmmaa.ChoP Go.Proofs.Ythinhhfegflmmaa.StrP Go.Proofs.Ythinhhfegflmmaa.Spin Go.Proofs.Ythinhhfegflmmaa.Row Go.Proofs.Ythinhhfegflmmaa.Later Go.Proofs.Ythinhhfegflmmaa.Fact Go.Proofs.Ythinhhfegflmmaa.Delta Go.Proofs.Ythinhhfegflmmaa.Ways Go.Proofs.Ythinhhfegflmmaa.Root Go.Proofs.Ythinhhfegflmmaa.Two Go.Proofs.Ythinhhfegflmmaa.SixS Go.Proofs.Ythinhhfegflmmaa.LineS Go.Proofs.Ythinhhfegflmmaa.Six Go.Proofs.Ythinhhfegflmmaa.SixI
set_option linter.unusedVariables false
set_option linter.unusedSimpArgs false

/-- three cells -/
def Thr (W : World) (b : Nat) (x y z : Int) : Prop := W.cell? ⟨b, 0, none⟩ = some (.int .i64 x) ∧ W.cell? ⟨b, 1, none⟩ = some (.int .i64 y) ∧ W.cell? ⟨b, 2, none⟩ = some (.int .i64 z) ∧ b < W.heap.size
theorem Thr.below {W W' : World} {b B : Nat} {x y z : Int} (h : Thr W b x y z) (hb : Below B W W') (hB : b < B) : Thr W' b x y z :=
  ⟨(hb.cell (p := ⟨b, 0, none⟩) hB).trans h.1, (hb.cell (p := ⟨b, 1, none⟩) hB).trans h.2.1, (hb.cell (p := ⟨b, 2, none⟩) hB).trans h.2.2.1, Nat.lt_of_lt_of_le h.2.2.2 hb.size⟩
theorem Thr.alloc {W : World} {b : Nat} {x y z : Int} (h : Thr W b x y z) (o : Obj) : Thr (W.alloc o) b x y z := h.below ((Below.refl W.heap.size W).alloc (Nat.le_refl _) o) h.2.2.2

theorem wrap_prod {x y : Int} (hx : 0 ≤ x ∧ x ≤ 6) (hy : 0 ≤ y ∧ y ≤ 6) : IntKind.i64.wrap ((x + 1) * (y + 1)) = (x + 1) * (y + 1) := by
  obtain ⟨m1, m2⟩ := mul_bds (a := x + 1) (b := y + 1) (A := 7) (B := 7) (by omega) (by omega) (by omega) (by omega) (by omega)
  exact IntWalk.i64_in _ (by omega)

set_option maxRecDepth 100000 in
set_option maxHeartbeats 1000000 in
theorem iStrengthValid (s l j : Int) (w : World) : Calls Try.prog 45 #[.agg #[.int .i64 s, .int .i64 l, .int .i64 j]] w (Gives (.bool (smallL s l j)) w) := by
  have HL := Lib.hid (fun W (r : Bool) (h : levelOk s l j = r) => (h ▸ iLevelValid s l j W : Calls Try.prog 64 #[.agg #[.int .i64 s, .int .i64 l, .int .i64 j]] W (Gives (.bool r) W)))
  cases h : levelOk s l j
  · have HV := Lib.hid (fun W => HL.out W _ h)
    have HR := Lib.hid (show smallL s l j = false by unfold smallL; rw [h]; rfl)
    clear h
    go_enter Try.func45, Try.ntmps45
    go_wp2_with fail
    (with_reducible refine (HV.out _).mono ?_)
    rintro e w1 ⟨rfl, b1⟩
    have hz1 := b1.size
    obtain ⟨hc1, hf1⟩ := bcell b1
    have B1 : Below w.heap.size w w1 := Below.trans (by repeat (first | (with_reducible refine Below.drew ?_) | (with_reducible refine below_drewN ?_ _) | (with_reducible refine Below.alloc ?_ ?_ _) | (with_reducible refine Below.setCell ?_ ?_ _) | (with_reducible assumption) | (with_reducible exact Below.refl _ _) | omega | (simp <;> omega))) (b1.mono (by first | omega | (simp <;> omega)))
    (try simp at hz1)
    have hy1 : w.heap.size < w1.heap.size := by omega
    clear b1
    go_wp2
    go_ret
    exact ⟨ret_bool HR.out.symm, (by repeat (first | (with_reducible refine Below.drew ?_) | (with_reducible refine below_drewN ?_ _) | (with_reducible refine Below.alloc ?_ ?_ _) | (with_reducible refine Below.setCell ?_ ?_ _) | (with_reducible assumption) | (with_reducible exact Below.refl _ _) | omega | (simp <;> omega)))⟩
  · have HV := Lib.hid (fun W => HL.out W _ h)
    have h4 := h
    unfold levelOk at h4
    rw [Bool.and_eq_true] at h4
    have h5 := termOk_true.1 h4.1
    have h6 := tri_true.1 h4.2
    obtain ⟨⟨s0, s8⟩, l0, l8⟩ := h5
    have hj : 0 ≤ j ∧ j ≤ 24 := by omega
    have HR := Lib.hid (show smallL s l j = (small (2 * l) && small j && small s) by
      unfold smallL small
      rw [h, Bool.eq_iff_iff]; simp <;> omega)
    clear h h4 h6 hj
    cases k1 : small (2 * l)
    · have H1 := Lib.hid (fun W => couple_is W k1)
      rw [k1] at HR
      clear k1
      go_enter Try.func45, Try.ntmps45
      go_wp2_with fail
      (with_reducible refine (HV.out _).mono ?_)
      rintro e w1 ⟨rfl, b1⟩
      have hz1 := b1.size
      obtain ⟨hc1, hf1⟩ := bcell b1
      have B1 : Below w.heap.size w w1 := Below.trans (by repeat (first | (with_reducible refine Below.drew ?_) | (with_reducible refine below_drewN ?_ _) | (with_reducible refine Below.alloc ?_ ?_ _) | (with_reducible refine Below.setCell ?_ ?_ _) | (with_reducible assumption) | (with_reducible exact Below.refl _ _) | omega | (simp <;> omega))) (b1.mono (by first | omega | (simp <;> omega)))
      (try simp at hz1)
      have hy1 : w.heap.size < w1.heap.size := by omega
      clear b1
      have kc1_0_0 : w1.cell? ⟨w.heap.size, 0, none⟩ = some (.int .i64 s) := (hc1 (w.heap.size) 0 (by first | omega | (simp <;> omega))).trans (by first | (simp; done) | (simp [*]; done) | (simp [*, World.cell?_alloc_at, World.cell?_alloc_past, World.cell?_alloc_lt, lt2, lt3, lt4]; done))
      have kc1_1_0 : w1.cell? ⟨w.heap.size, 1, none⟩ = some (.int .i64 l) := (hc1 (w.heap.size) 1 (by first | omega | (simp <;> omega))).trans (by first | (simp; done) | (simp [*]; done) | (simp [*, World.cell?_alloc_at, World.cell?_alloc_past, World.cell?_alloc_lt, lt2, lt3, lt4]; done))
      have kc1_2_0 : w1.cell? ⟨w.heap.size, 2, none⟩ = some (.int .i64 j) := (hc1 (w.heap.size) 2 (by first | omega | (simp <;> omega))).trans (by first | (simp; done) | (simp [*]; done) | (simp [*, World.cell?_alloc_at, World.cell?_alloc_past, World.cell?_alloc_lt, lt2, lt3, lt4]; done))
      go_wp2_with fail
      (with_reducible refine (H1.out _).mono ?_)
      rintro e w' ⟨rfl, rfl⟩
      go_wp2
      go_ret
      exact ⟨ret_bool (by rw [HR.out]; simp), (by repeat (first | (with_reducible refine Below.drew ?_) | (with_reducible refine below_drewN ?_ _) | (with_reducible refine Below.alloc ?_ ?_ _) | (with_reducible refine Below.setCell ?_ ?_ _) | (with_reducible assumption) | (with_reducible exact Below.refl _ _) | omega | (simp <;> omega)))⟩
    · have H1 := Lib.hid (fun W => couple_is W k1)
      rw [k1] at HR
      clear k1
      cases k2 : small j
      · have H2 := Lib.hid (fun W => couple_is W k2)
        rw [k2] at HR
        clear k2
        go_enter Try.func45, Try.ntmps45
        go_wp2_with fail
        (with_reducible refine (HV.out _).mono ?_)
        rintro e w1 ⟨rfl, b1⟩
        have hz1 := b1.size
        obtain ⟨hc1, hf1⟩ := bcell b1
        have B1 : Below w.heap.size w w1 := Below.trans (by repeat (first | (with_reducible refine Below.drew ?_) | (with_reducible refine below_drewN ?_ _) | (with_reducible refine Below.alloc ?_ ?_ _) | (with_reducible refine Below.setCell ?_ ?_ _) | (with_reducible assumption) | (with_reducible exact Below.refl _ _) | omega | (simp <;> omega))) (b1.mono (by first | omega | (simp <;> omega)))
        (try simp at hz1)
        have hy1 : w.heap.size < w1.heap.size := by omega
        clear b1
        have kc1_0_0 : w1.cell? ⟨w.heap.size, 0, none⟩ = some (.int .i64 s) := (hc1 (w.heap.size) 0 (by first | omega | (simp <;> omega))).trans (by first | (simp; done) | (simp [*]; done) | (simp [*, World.cell?_alloc_at, World.cell?_alloc_past, World.cell?_alloc_lt, lt2, lt3, lt4]; done))
        have kc1_1_0 : w1.cell? ⟨w.heap.size, 1, none⟩ = some (.int .i64 l) := (hc1 (w.heap.size) 1 (by first | omega | (simp <;> omega))).trans (by first | (simp; done) | (simp [*]; done) | (simp [*, World.cell?_alloc_at, World.cell?_alloc_past, World.cell?_alloc_lt, lt2, lt3, lt4]; done))
        have kc1_2_0 : w1.cell? ⟨w.heap.size, 2, none⟩ = some (.int .i64 j) := (hc1 (w.heap.size) 2 (by first | omega | (simp <;> omega))).trans (by first | (simp; done) | (simp [*]; done) | (simp [*, World.cell?_alloc_at, World.cell?_alloc_past, World.cell?_alloc_lt, lt2, lt3, lt4]; done))
        go_wp2_with fail
        (with_reducible refine (H1.out _).mono ?_)
        rintro e w' ⟨rfl, rfl⟩
        go_wp2_with fail
        (with_reducible refine (H2.out _).mono ?_)
        rintro e w' ⟨rfl, rfl⟩
        go_wp2
        go_ret
        exact ⟨ret_bool (by rw [HR.out]; simp), (by repeat (first | (with_reducible refine Below.drew ?_) | (with_reducible refine below_drewN ?_ _) | (with_reducible refine Below.alloc ?_ ?_ _) | (with_reducible refine Below.setCell ?_ ?_ _) | (with_reducible assumption) | (with_reducible exact Below.refl _ _) | omega | (simp <;> omega)))⟩
      · have H2 := Lib.hid (fun W => couple_is W k2)
        have H3 := Lib.hid (fun W => coupleSpin s W)
        rw [k2] at HR
        clear k2
        go_enter Try.func45, Try.ntmps45
        go_wp2_with fail
        (with_reducible refine (HV.out _).mono ?_)
        rintro e w1 ⟨rfl, b1⟩
        have hz1 := b1.size
        obtain ⟨hc1, hf1⟩ := bcell b1
        have B1 : Below w.heap.size w w1 := Below.trans (by repeat (first | (with_reducible refine Below.drew ?_) | (with_reducible refine below_drewN ?_ _) | (with_reducible refine Below.alloc ?_ ?_ _) | (with_reducible refine Below.setCell ?_ ?_ _) | (with_reducible assumption) | (with_reducible exact Below.refl _ _) | omega | (simp <;> omega))) (b1.mono (by first | omega | (simp <;> omega)))
        (try simp at hz1)
        have hy1 : w.heap.size < w1.heap.size := by omega
        clear b1
        have kc1_0_0 : w1.cell? ⟨w.heap.size, 0, none⟩ = some (.int .i64 s) := (hc1 (w.heap.size) 0 (by first | omega | (simp <;> omega))).trans (by first | (simp; done) | (simp [*]; done) | (simp [*, World.cell?_alloc_at, World.cell?_alloc_past, World.cell?_alloc_lt, lt2, lt3, lt4]; done))
        have kc1_1_0 : w1.cell? ⟨w.heap.size, 1, none⟩ = some (.int .i64 l) := (hc1 (w.heap.size) 1 (by first | omega | (simp <;> omega))).trans (by first | (simp; done) | (simp [*]; done) | (simp [*, World.cell?_alloc_at, World.cell?_alloc_past, World.cell?_alloc_lt, lt2, lt3, lt4]; done))
        have kc1_2_0 : w1.cell? ⟨w.heap.size, 2, none⟩ = some (.int .i64 j) := (hc1 (w.heap.size) 2 (by first | omega | (simp <;> omega))).trans (by first | (simp; done) | (simp [*]; done) | (simp [*, World.cell?_alloc_at, World.cell?_alloc_past, World.cell?_alloc_lt, lt2, lt3, lt4]; done))
        go_wp2_with fail
        (with_reducible refine (H1.out _).mono ?_)
        rintro e w' ⟨rfl, rfl⟩
        go_wp2_with fail
        (with_reducible refine (H2.out _).mono ?_)
        rintro e w' ⟨rfl, rfl⟩
        go_wp2_with fail
        (with_reducible refine (H3.out _).mono ?_)
        rintro e w' ⟨rfl, rfl⟩
        go_wp2
        go_ret
        exact ⟨ret_bool (by rw [HR.out]; simp), (by repeat (first | (with_reducible refine Below.drew ?_) | (with_reducible refine below_drewN ?_ _) | (with_reducible refine Below.alloc ?_ ?_ _) | (with_reducible refine Below.setCell ?_ ?_ _) | (with_reducible assumption) | (with_reducible exact Below.refl _ _) | omega | (simp <;> omega)))⟩
theorem iValid_is {s l j : Int} {r : Bool} (w : World) (h : smallL s l j = r) : Calls Try.prog 45 #[.agg #[.int .i64 s, .int .i64 l, .int .i64 j]] w (Gives (.bool r) w) := h ▸ iStrengthValid s l j w

set_option maxRecDepth 100000 in
set_option maxHeartbeats 8000000 in
theorem iLineStrength (s l j s' l' j' : Int) (w : World) (HS6 : ∀ a b c d e, Dom a b c d e → SumGives a b c d e) : Calls Try.prog 21 #[.agg #[.int .i64 s, .int .i64 l, .int .i64 j], .agg #[.int .i64 s', .int .i64 l', .int .i64 j']] w (Gives (roV (lineS s l j s' l' j')) w) := by
  cases h1 : smallL s l j
  · have HR := Lib.hid (line_no1 s' l' j' h1)
    have HV := Lib.hid (fun W => iValid_is W h1)
    clear h1 HS6
    go_enter Try.func21, Try.ntmps21
    go_wp2_with fail
    (with_reducible refine (HV.out _).mono ?_)
    rintro e w1 ⟨rfl, b1⟩
    have hz1 := b1.size
    obtain ⟨hc1, hf1⟩ := bcell b1
    have B1 : Below w.heap.size w w1 := Below.trans (by repeat (first | (with_reducible refine Below.drew ?_) | (with_reducible refine below_drewN ?_ _) | (with_reducible refine Below.alloc ?_ ?_ _) | (with_reducible refine Below.setCell ?_ ?_ _) | (with_reducible assumption) | (with_reducible exact Below.refl _ _) | omega | (simp <;> omega))) (b1.mono (by first | omega | (simp <;> omega)))
    (try simp at hz1)
    have hy1 : w.heap.size < w1.heap.size := by omega
    clear b1
    have kc1_0_2 : w1.cell? ⟨w.heap.size + 1 + 1, 0, none⟩ = some (.int .i64 0) := (hc1 (w.heap.size + 1 + 1) 0 (by first | omega | (simp <;> omega))).trans (by first | (simp; done) | (simp [*]; done) | (simp [*, World.cell?_alloc_at, World.cell?_alloc_past, World.cell?_alloc_lt, lt2, lt3, lt4]; done))
    have kc1_1_2 : w1.cell? ⟨w.heap.size + 1 + 1, 1, none⟩ = some (.int .i64 0) := (hc1 (w.heap.size + 1 + 1) 1 (by first | omega | (simp <;> omega))).trans (by first | (simp; done) | (simp [*]; done) | (simp [*, World.cell?_alloc_at, World.cell?_alloc_past, World.cell?_alloc_lt, lt2, lt3, lt4]; done))
    have kf1_0_2 : w1.frozen? ⟨w.heap.size + 1 + 1, 0, none⟩ = false := (hf1 (w.heap.size + 1 + 1) 0 (by first | omega | (simp <;> omega))).trans (by first | (simp; done) | (simp [*]; done) | (simp [*, World.frozen?_alloc_at, World.frozen?_alloc_past, lt2, lt3, lt4]; done))
    have kf1_1_2 : w1.frozen? ⟨w.heap.size + 1 + 1, 1, none⟩ = false := (hf1 (w.heap.size + 1 + 1) 1 (by first | omega | (simp <;> omega))).trans (by first | (simp; done) | (simp [*]; done) | (simp [*, World.frozen?_alloc_at, World.frozen?_alloc_past, lt2, lt3, lt4]; done))
    go_wp2
    refine bodyPost_ret (v := .tuple #[.agg #[.int .i64 0, .int .i64 0], .bool false]) (by simp [results, Try.results21, go_sem, *, lt2, lt3, lt4, lt5, lt6]) rfl ⟨by rw [HR.out]; rfl, (by repeat (first | (with_reducible refine Below.drew ?_) | (with_reducible refine below_drewN ?_ _) | (with_reducible refine Below.alloc ?_ ?_ _) | (with_reducible refine Below.setCell ?_ ?_ _) | (with_reducible assumption) | (with_reducible exact Below.refl _ _) | omega | (simp <;> omega)))⟩
  · cases h2 : smallL s' l' j'
    · have HR := Lib.hid (line_no2 s l j h2)
      have HV := Lib.hid (fun W => iValid_is W h1)
      have HW := Lib.hid (fun W => iValid_is W h2)
      clear h1 h2 HS6
      go_enter Try.func21, Try.ntmps21
      go_wp2_with fail
      (with_reducible refine (HV.out _).mono ?_)
      rintro e w1 ⟨rfl, b1⟩
      have hz1 := b1.size
      obtain ⟨hc1, hf1⟩ := bcell b1
      have B1 : Below w.heap.size w w1 := Below.trans (by repeat (first | (with_reducible refine Below.drew ?_) | (with_reducible refine below_drewN ?_ _) | (with_reducible refine Below.alloc ?_ ?_ _) | (with_reducible refine Below.setCell ?_ ?_ _) | (with_reducible assumption) | (with_reducible exact Below.refl _ _) | omega | (simp <;> omega))) (b1.mono (by first | omega | (simp <;> omega)))
      (try simp at hz1)
      have hy1 : w.heap.size < w1.heap.size := by omega
      clear b1
      have kc1_0_0 : w1.cell? ⟨w.heap.size, 0, none⟩ = some (.int .i64 s) := (hc1 (w.heap.size) 0 (by first | omega | (simp <;> omega))).trans (by first | (simp; done) | (simp [*]; done) | (simp [*, World.cell?_alloc_at, World.cell?_alloc_past, World.cell?_alloc_lt, lt2, lt3, lt4]; done))
      have kc1_1_0 : w1.cell? ⟨w.heap.size, 1, none⟩ = some (.int .i64 l) := (hc1 (w.heap.size) 1 (by first | omega | (simp <;> omega))).trans (by first | (simp; done) | (simp [*]; done) | (simp [*, World.cell?_alloc_at, World.cell?_alloc_past, World.cell?_alloc_lt, lt2, lt3, lt4]; done))
      have kc1_2_0 : w1.cell? ⟨w.heap.size, 2, none⟩ = some (.int .i64 j) := (hc1 (w.heap.size) 2 (by first | omega | (simp <;> omega))).trans (by first | (simp; done) | (simp [*]; done) | (simp [*, World.cell?_alloc_at, World.cell?_alloc_past, World.cell?_alloc_lt, lt2, lt3, lt4]; done))
      have kc1_0_1 : w1.cell? ⟨w.heap.size + 1, 0, none⟩ = some (.int .i64 s') := (hc1 (w.heap.size + 1) 0 (by first | omega | (simp <;> omega))).trans (by first | (simp; done) | (simp [*]; done) | (simp [*, World.cell?_alloc_at, World.cell?_alloc_past, World.cell?_alloc_lt, lt2, lt3, lt4]; done))
      have kc1_1_1 : w1.cell? ⟨w.heap.size + 1, 1, none⟩ = some (.int .i64 l') := (hc1 (w.heap.size + 1) 1 (by first | omega | (simp <;> omega))).trans (by first | (simp; done) | (simp [*]; done) | (simp [*, World.cell?_alloc_at, World.cell?_alloc_past, World.cell?_alloc_lt, lt2, lt3, lt4]; done))
      have kc1_2_1 : w1.cell? ⟨w.heap.size + 1, 2, none⟩ = some (.int .i64 j') := (hc1 (w.heap.size + 1) 2 (by first | omega | (simp <;> omega))).trans (by first | (simp; done) | (simp [*]; done) | (simp [*, World.cell?_alloc_at, World.cell?_alloc_past, World.cell?_alloc_lt, lt2, lt3, lt4]; done))
      have kc1_0_2 : w1.cell? ⟨w.heap.size + 1 + 1, 0, none⟩ = some (.int .i64 0) := (hc1 (w.heap.size + 1 + 1) 0 (by first | omega | (simp <;> omega))).trans (by first | (simp; done) | (simp [*]; done) | (simp [*, World.cell?_alloc_at, World.cell?_alloc_past, World.cell?_alloc_lt, lt2, lt3, lt4]; done))
      have kc1_1_2 : w1.cell? ⟨w.heap.size + 1 + 1, 1, none⟩ = some (.int .i64 0) := (hc1 (w.heap.size + 1 + 1) 1 (by first | omega | (simp <;> omega))).trans (by first | (simp; done) | (simp [*]; done) | (simp [*, World.cell?_alloc_at, World.cell?_alloc_past, World.cell?_alloc_lt, lt2, lt3, lt4]; done))
      have kf1_0_2 : w1.frozen? ⟨w.heap.size + 1 + 1, 0, none⟩ = false := (hf1 (w.heap.size + 1 + 1) 0 (by first | omega | (simp <;> omega))).trans (by first | (simp; done) | (simp [*]; done) | (simp [*, World.frozen?_alloc_at, World.frozen?_alloc_past, lt2, lt3, lt4]; done))
      have kf1_1_2 : w1.frozen? ⟨w.heap.size + 1 + 1, 1, none⟩ = false := (hf1 (w.heap.size + 1 + 1) 1 (by first | omega | (simp <;> omega))).trans (by first | (simp; done) | (simp [*]; done) | (simp [*, World.frozen?_alloc_at, World.frozen?_alloc_past, lt2, lt3, lt4]; done))
      have hya1 : w.heap.size + 1 < w1.heap.size := by omega
      have hyb1 : w.heap.size + 1 + 1 < w1.heap.size := by omega
      go_wp2_with fail
      (with_reducible refine (HW.out _).mono ?_)
      rintro e w2 ⟨rfl, b2⟩
      have hz2 := b2.size
      obtain ⟨hc2, hf2⟩ := bcell b2
      have B2 : Below w.heap.size w w2 := Below.trans (by repeat (first | (with_reducible refine Below.drew ?_) | (with_reducible refine below_drewN ?_ _) | (with_reducible refine Below.alloc ?_ ?_ _) | (with_reducible refine Below.setCell ?_ ?_ _) | (with_reducible assumption) | (with_reducible exact Below.refl _ _) | omega | (simp <;> omega))) (b2.mono (by first | omega | (simp <;> omega)))
      (try simp at hz2)
      have hy2 : w.heap.size < w2.heap.size := by omega
      clear b2
      have kc2_0_0 : w2.cell? ⟨w.heap.size, 0, none⟩ = some (.int .i64 s) := (hc2 (w.heap.size) 0 (by first | omega | (simp <;> omega))).trans (by first | (simp; done) | (simp [*]; done) | (simp [*, World.cell?_alloc_at, World.cell?_alloc_past, World.cell?_alloc_lt, lt2, lt3, lt4]; done))
      have kc2_1_0 : w2.cell? ⟨w.heap.size, 1, none⟩ = some (.int .i64 l) := (hc2 (w.heap.size) 1 (by first | omega | (simp <;> omega))).trans (by first | (simp; done) | (simp [*]; done) | (simp [*, World.cell?_alloc_at, World.cell?_alloc_past, World.cell?_alloc_lt, lt2, lt3, lt4]; done))
      have kc2_2_0 : w2.cell? ⟨w.heap.size, 2, none⟩ = some (.int .i64 j) := (hc2 (w.heap.size) 2 (by first | omega | (simp <;> omega))).trans (by first | (simp; done) | (simp [*]; done) | (simp [*, World.cell?_alloc_at, World.cell?_alloc_past, World.cell?_alloc_lt, lt2, lt3, lt4]; done))
      have kc2_0_1 : w2.cell? ⟨w.heap.size + 1, 0, none⟩ = some (.int .i64 s') := (hc2 (w.heap.size + 1) 0 (by first | omega | (simp <;> omega))).trans (by first | (simp; done) | (simp [*]; done) | (simp [*, World.cell?_alloc_at, World.cell?_alloc_past, World.cell?_alloc_lt, lt2, lt3, lt4]; done))
      have kc2_1_1 : w2.cell? ⟨w.heap.size + 1, 1, none⟩ = some (.int .i64 l') := (hc2 (w.heap.size + 1) 1 (by first | omega | (simp <;> omega))).trans (by first | (simp; done) | (simp [*]; done) | (simp [*, World.cell?_alloc_at, World.cell?_alloc_past, World.cell?_alloc_lt, lt2, lt3, lt4]; done))
      have kc2_2_1 : w2.cell? ⟨w.heap.size + 1, 2, none⟩ = some (.int .i64 j') := (hc2 (w.heap.size + 1) 2 (by first | omega | (simp <;> omega))).trans (by first | (simp; done) | (simp [*]; done) | (simp [*, World.cell?_alloc_at, World.cell?_alloc_past, World.cell?_alloc_lt, lt2, lt3, lt4]; done))
      have kc2_0_2 : w2.cell? ⟨w.heap.size + 1 + 1, 0, none⟩ = some (.int .i64 0) := (hc2 (w.heap.size + 1 + 1) 0 (by first | omega | (simp <;> omega))).trans (by first | (simp; done) | (simp [*]; done) | (simp [*, World.cell?_alloc_at, World.cell?_alloc_past, World.cell?_alloc_lt, lt2, lt3, lt4]; done))
      have kc2_1_2 : w2.cell? ⟨w.heap.size + 1 + 1, 1, none⟩ = some (.int .i64 0) := (hc2 (w.heap.size + 1 + 1) 1 (by first | omega | (simp <;> omega))).trans (by first | (simp; done) | (simp [*]; done) | (simp [*, World.cell?_alloc_at, World.cell?_alloc_past, World.cell?_alloc_lt, lt2, lt3, lt4]; done))
      have kf2_0_2 : w2.frozen? ⟨w.heap.size + 1 + 1, 0, none⟩ = false := (hf2 (w.heap.size + 1 + 1) 0 (by first | omega | (simp <;> omega))).trans (by first | (simp; done) | (simp [*]; done) | (simp [*, World.frozen?_alloc_at, World.frozen?_alloc_past, lt2, lt3, lt4]; done))
      have kf2_1_2 : w2.frozen? ⟨w.heap.size + 1 + 1, 1, none⟩ = false := (hf2 (w.heap.size + 1 + 1) 1 (by first | omega | (simp <;> omega))).trans (by first | (simp; done) | (simp [*]; done) | (simp [*, World.frozen?_alloc_at, World.frozen?_alloc_past, lt2, lt3, lt4]; done))
      have hya2 : w.heap.size + 1 < w2.heap.size := by omega
      have hyb2 : w.heap.size + 1 + 1 < w2.heap.size := by omega
      go_wp2
      refine bodyPost_ret (v := .tuple #[.agg #[.int .i64 0, .int .i64 0], .bool false]) (by simp [results, Try.results21, go_sem, *, lt2, lt3, lt4, lt5, lt6]) rfl ⟨by rw [HR.out]; rfl, (by repeat (first | (with_reducible refine Below.drew ?_) | (with_reducible refine below_drewN ?_ _) | (with_reducible refine Below.alloc ?_ ?_ _) | (with_reducible refine Below.setCell ?_ ?_ _) | (with_reducible assumption) | (with_reducible exact Below.refl _ _) | omega | (simp <;> omega)))⟩
    · by_cases h3 : s = s'
      · subst h3
        have h3 : (s != s) = false := by simp
        have HV := Lib.hid (fun W => iValid_is W h1)
        have HW := Lib.hid (fun W => iValid_is W h2)
        obtain ⟨-, p1, p2, p3⟩ := smallL_parts h1
        obtain ⟨-, p4, p5, -⟩ := smallL_parts h2
        have HO := Lib.hid (fun W (r : Bool) (h : sixOk (2 * l) j s j' (2 * l') 2 = r) => exists_is W h)
        have hZ := line_zero h1 h2
        have hS := line_some h1 h2
        have hD := dom_of h1 h2
        clear h1 h2
        obtain ⟨p1a, p1b⟩ := p1
        obtain ⟨p2a, p2b⟩ := p2
        obtain ⟨p4a, p4b⟩ := p4
        obtain ⟨p5a, p5b⟩ := p5
        cases h4 : sixOk (2 * l) j s j' (2 * l') 2
        · have HR := Lib.hid (hZ h4)
          have HX := Lib.hid (fun W => HO.out W _ h4)
          have HW0 := Lib.hid (fun W => iwhole 0 W)
          clear hZ hS hD h4 HO HS6
          go_enter Try.func21, Try.ntmps21
          go_wp2_with fail
          (with_reducible refine (HV.out _).mono ?_)
          rintro e w1 ⟨rfl, b1⟩
          have hz1 := b1.size
          obtain ⟨hc1, hf1⟩ := bcell b1
          have B1 : Below w.heap.size w w1 := Below.trans (by repeat (first | (with_reducible refine Below.drew ?_) | (with_reducible refine below_drewN ?_ _) | (with_reducible refine Below.alloc ?_ ?_ _) | (with_reducible refine Below.setCell ?_ ?_ _) | (with_reducible assumption) | (with_reducible exact Below.refl _ _) | omega | (simp <;> omega))) (b1.mono (by first | omega | (simp <;> omega)))
          (try simp at hz1)
          have hy1 : w.heap.size < w1.heap.size := by omega
          clear b1
          have kc1_0_0 : w1.cell? ⟨w.heap.size, 0, none⟩ = some (.int .i64 s) := (hc1 (w.heap.size) 0 (by first | omega | (simp <;> omega))).trans (by first | (simp; done) | (simp [*]; done) | (simp [*, World.cell?_alloc_at, World.cell?_alloc_past, World.cell?_alloc_lt, lt2, lt3, lt4]; done))
          have kc1_1_0 : w1.cell? ⟨w.heap.size, 1, none⟩ = some (.int .i64 l) := (hc1 (w.heap.size) 1 (by first | omega | (simp <;> omega))).trans (by first | (simp; done) | (simp [*]; done) | (simp [*, World.cell?_alloc_at, World.cell?_alloc_past, World.cell?_alloc_lt, lt2, lt3, lt4]; done))
          have kc1_2_0 : w1.cell? ⟨w.heap.size, 2, none⟩ = some (.int .i64 j) := (hc1 (w.heap.size) 2 (by first | omega | (simp <;> omega))).trans (by first | (simp; done) | (simp [*]; done) | (simp [*, World.cell?_alloc_at, World.cell?_alloc_past, World.cell?_alloc_lt, lt2, lt3, lt4]; done))
          have kc1_0_1 : w1.cell? ⟨w.heap.size + 1, 0, none⟩ = some (.int .i64 s) := (hc1 (w.heap.size + 1) 0 (by first | omega | (simp <;> omega))).trans (by first | (simp; done) | (simp [*]; done) | (simp [*, World.cell?_alloc_at, World.cell?_alloc_past, World.cell?_alloc_lt, lt2, lt3, lt4]; done))
          have kc1_1_1 : w1.cell? ⟨w.heap.size + 1, 1, none⟩ = some (.int .i64 l') := (hc1 (w.heap.size + 1) 1 (by first | omega | (simp <;> omega))).trans (by first | (simp; done) | (simp [*]; done) | (simp [*, World.cell?_alloc_at, World.cell?_alloc_past, World.cell?_alloc_lt, lt2, lt3, lt4]; done))
          have kc1_2_1 : w1.cell? ⟨w.heap.size + 1, 2, none⟩ = some (.int .i64 j') := (hc1 (w.heap.size + 1) 2 (by first | omega | (simp <;> omega))).trans (by first | (simp; done) | (simp [*]; done) | (simp [*, World.cell?_alloc_at, World.cell?_alloc_past, World.cell?_alloc_lt, lt2, lt3, lt4]; done))
          have kc1_0_2 : w1.cell? ⟨w.heap.size + 1 + 1, 0, none⟩ = some (.int .i64 0) := (hc1 (w.heap.size + 1 + 1) 0 (by first | omega | (simp <;> omega))).trans (by first | (simp; done) | (simp [*]; done) | (simp [*, World.cell?_alloc_at, World.cell?_alloc_past, World.cell?_alloc_lt, lt2, lt3, lt4]; done))
          have kc1_1_2 : w1.cell? ⟨w.heap.size + 1 + 1, 1, none⟩ = some (.int .i64 0) := (hc1 (w.heap.size + 1 + 1) 1 (by first | omega | (simp <;> omega))).trans (by first | (simp; done) | (simp [*]; done) | (simp [*, World.cell?_alloc_at, World.cell?_alloc_past, World.cell?_alloc_lt, lt2, lt3, lt4]; done))
          have kf1_0_2 : w1.frozen? ⟨w.heap.size + 1 + 1, 0, none⟩ = false := (hf1 (w.heap.size + 1 + 1) 0 (by first | omega | (simp <;> omega))).trans (by first | (simp; done) | (simp [*]; done) | (simp [*, World.frozen?_alloc_at, World.frozen?_alloc_past, lt2, lt3, lt4]; done))
          have kf1_1_2 : w1.frozen? ⟨w.heap.size + 1 + 1, 1, none⟩ = false := (hf1 (w.heap.size + 1 + 1) 1 (by first | omega | (simp <;> omega))).trans (by first | (simp; done) | (simp [*]; done) | (simp [*, World.frozen?_alloc_at, World.frozen?_alloc_past, lt2, lt3, lt4]; done))
          have hya1 : w.heap.size + 1 < w1.heap.size := by omega
          have hyb1 : w.heap.size + 1 + 1 < w1.heap.size := by omega
          go_wp2_with fail
          (with_reducible refine (HW.out _).mono ?_)
          rintro e w2 ⟨rfl, b2⟩
          have hz2 := b2.size
          obtain ⟨hc2, hf2⟩ := bcell b2
          have B2 : Below w.heap.size w w2 := Below.trans (by repeat (first | (with_reducible refine Below.drew ?_) | (with_reducible refine below_drewN ?_ _) | (with_reducible refine Below.alloc ?_ ?_ _) | (with_reducible refine Below.setCell ?_ ?_ _) | (with_reducible assumption) | (with_reducible exact Below.refl _ _) | omega | (simp <;> omega))) (b2.mono (by first | omega | (simp <;> omega)))
          (try simp at hz2)
          have hy2 : w.heap.size < w2.heap.size := by omega
          clear b2
          have kc2_0_0 : w2.cell? ⟨w.heap.size, 0, none⟩ = some (.int .i64 s) := (hc2 (w.heap.size) 0 (by first | omega | (simp <;> omega))).trans (by first | (simp; done) | (simp [*]; done) | (simp [*, World.cell?_alloc_at, World.cell?_alloc_past, World.cell?_alloc_lt, lt2, lt3, lt4]; done))
          have kc2_1_0 : w2.cell? ⟨w.heap.size, 1, none⟩ = some (.int .i64 l) := (hc2 (w.heap.size) 1 (by first | omega | (simp <;> omega))).trans (by first | (simp; done) | (simp [*]; done) | (simp [*, World.cell?_alloc_at, World.cell?_alloc_past, World.cell?_alloc_lt, lt2, lt3, lt4]; done))
          have kc2_2_0 : w2.cell? ⟨w.heap.size, 2, none⟩ = some (.int .i64 j) := (hc2 (w.heap.size) 2 (by first | omega | (simp <;> omega))).trans (by first | (simp; done) | (simp [*]; done) | (simp [*, World.cell?_alloc_at, World.cell?_alloc_past, World.cell?_alloc_lt, lt2, lt3, lt4]; done))
          have kc2_0_1 : w2.cell? ⟨w.heap.size + 1, 0, none⟩ = some (.int .i64 s) := (hc2 (w.heap.size + 1) 0 (by first | omega | (simp <;> omega))).trans (by first | (simp; done) | (simp [*]; done) | (simp [*, World.cell?_alloc_at, World.cell?_alloc_past, World.cell?_alloc_lt, lt2, lt3, lt4]; done))
          have kc2_1_1 : w2.cell? ⟨w.heap.size + 1, 1, none⟩ = some (.int .i64 l') := (hc2 (w.heap.size + 1) 1 (by first | omega | (simp <;> omega))).trans (by first | (simp; done) | (simp [*]; done) | (simp [*, World.cell?_alloc_at, World.cell?_alloc_past, World.cell?_alloc_lt, lt2, lt3, lt4]; done))
          have kc2_2_1 : w2.cell? ⟨w.heap.size + 1, 2, none⟩ = some (.int .i64 j') := (hc2 (w.heap.size + 1) 2 (by first | omega | (simp <;> omega))).trans (by first | (simp; done) | (simp [*]; done) | (simp [*, World.cell?_alloc_at, World.cell?_alloc_past, World.cell?_alloc_lt, lt2, lt3, lt4]; done))
          have kc2_0_2 : w2.cell? ⟨w.heap.size + 1 + 1, 0, none⟩ = some (.int .i64 0) := (hc2 (w.heap.size + 1 + 1) 0 (by first | omega | (simp <;> omega))).trans (by first | (simp; done) | (simp [*]; done) | (simp [*, World.cell?_alloc_at, World.cell?_alloc_past, World.cell?_alloc_lt, lt2, lt3, lt4]; done))
          have kc2_1_2 : w2.cell? ⟨w.heap.size + 1 + 1, 1, none⟩ = some (.int .i64 0) := (hc2 (w.heap.size + 1 + 1) 1 (by first | omega | (simp <;> omega))).trans (by first | (simp; done) | (simp [*]; done) | (simp [*, World.cell?_alloc_at, World.cell?_alloc_past, World.cell?_alloc_lt, lt2, lt3, lt4]; done))
          have kf2_0_2 : w2.frozen? ⟨w.heap.size + 1 + 1, 0, none⟩ = false := (hf2 (w.heap.size + 1 + 1) 0 (by first | omega | (simp <;> omega))).trans (by first | (simp; done) | (simp [*]; done) | (simp [*, World.frozen?_alloc_at, World.frozen?_alloc_past, lt2, lt3, lt4]; done))
          have kf2_1_2 : w2.frozen? ⟨w.heap.size + 1 + 1, 1, none⟩ = false := (hf2 (w.heap.size + 1 + 1) 1 (by first | omega | (simp <;> omega))).trans (by first | (simp; done) | (simp [*]; done) | (simp [*, World.frozen?_alloc_at, World.frozen?_alloc_past, lt2, lt3, lt4]; done))
          have hya2 : w.heap.size + 1 < w2.heap.size := by omega
          have hyb2 : w.heap.size + 1 + 1 < w2.heap.size := by omega
          go_wp2_with fail
          (with_reducible refine (HX.out _).mono ?_)
          rintro e w3 ⟨rfl, b3⟩
          have hz3 := b3.size
          obtain ⟨hc3, hf3⟩ := bcell b3
          have B3 : Below w.heap.size w w3 := Below.trans (by repeat (first | (with_reducible refine Below.drew ?_) | (with_reducible refine below_drewN ?_ _) | (with_reducible refine Below.alloc ?_ ?_ _) | (with_reducible refine Below.setCell ?_ ?_ _) | (with_reducible assumption) | (with_reducible exact Below.refl _ _) | omega | (simp <;> omega))) (b3.mono (by first | omega | (simp <;> omega)))
          (try simp at hz3)
          have hy3 : w.heap.size < w3.heap.size := by omega
          clear b3
          have kc3_0_0 : w3.cell? ⟨w.heap.size, 0, none⟩ = some (.int .i64 s) := (hc3 (w.heap.size) 0 (by first | omega | (simp <;> omega))).trans (by first | (simp; done) | (simp [*]; done) | (simp [*, World.cell?_alloc_at, World.cell?_alloc_past, World.cell?_alloc_lt, lt2, lt3, lt4]; done))
          have kc3_1_0 : w3.cell? ⟨w.heap.size, 1, none⟩ = some (.int .i64 l) := (hc3 (w.heap.size) 1 (by first | omega | (simp <;> omega))).trans (by first | (simp; done) | (simp [*]; done) | (simp [*, World.cell?_alloc_at, World.cell?_alloc_past, World.cell?_alloc_lt, lt2, lt3, lt4]; done))
          have kc3_2_0 : w3.cell? ⟨w.heap.size, 2, none⟩ = some (.int .i64 j) := (hc3 (w.heap.size) 2 (by first | omega | (simp <;> omega))).trans (by first | (simp; done) | (simp [*]; done) | (simp [*, World.cell?_alloc_at, World.cell?_alloc_past, World.cell?_alloc_lt, lt2, lt3, lt4]; done))
          have kc3_0_1 : w3.cell? ⟨w.heap.size + 1, 0, none⟩ = some (.int .i64 s) := (hc3 (w.heap.size + 1) 0 (by first | omega | (simp <;> omega))).trans (by first | (simp; done) | (simp [*]; done) | (simp [*, World.cell?_alloc_at, World.cell?_alloc_past, World.cell?_alloc_lt, lt2, lt3, lt4]; done))
          have kc3_1_1 : w3.cell? ⟨w.heap.size + 1, 1, none⟩ = some (.int .i64 l') := (hc3 (w.heap.size + 1) 1 (by first | omega | (simp <;> omega))).trans (by first | (simp; done) | (simp [*]; done) | (simp [*, World.cell?_alloc_at, World.cell?_alloc_past, World.cell?_alloc_lt, lt2, lt3, lt4]; done))
          have kc3_2_1 : w3.cell? ⟨w.heap.size + 1, 2, none⟩ = some (.int .i64 j') := (hc3 (w.heap.size + 1) 2 (by first | omega | (simp <;> omega))).trans (by first | (simp; done) | (simp [*]; done) | (simp [*, World.cell?_alloc_at, World.cell?_alloc_past, World.cell?_alloc_lt, lt2, lt3, lt4]; done))
          have kc3_0_2 : w3.cell? ⟨w.heap.size + 1 + 1, 0, none⟩ = some (.int .i64 0) := (hc3 (w.heap.size + 1 + 1) 0 (by first | omega | (simp <;> omega))).trans (by first | (simp; done) | (simp [*]; done) | (simp [*, World.cell?_alloc_at, World.cell?_alloc_past, World.cell?_alloc_lt, lt2, lt3, lt4]; done))
          have kc3_1_2 : w3.cell? ⟨w.heap.size + 1 + 1, 1, none⟩ = some (.int .i64 0) := (hc3 (w.heap.size + 1 + 1) 1 (by first | omega | (simp <;> omega))).trans (by first | (simp; done) | (simp [*]; done) | (simp [*, World.cell?_alloc_at, World.cell?_alloc_past, World.cell?_alloc_lt, lt2, lt3, lt4]; done))
          have kf3_0_2 : w3.frozen? ⟨w.heap.size + 1 + 1, 0, none⟩ = false := (hf3 (w.heap.size + 1 + 1) 0 (by first | omega | (simp <;> omega))).trans (by first | (simp; done) | (simp [*]; done) | (simp [*, World.frozen?_alloc_at, World.frozen?_alloc_past, lt2, lt3, lt4]; done))
          have kf3_1_2 : w3.frozen? ⟨w.heap.size + 1 + 1, 1, none⟩ = false := (hf3 (w.heap.size + 1 + 1) 1 (by first | omega | (simp <;> omega))).trans (by first | (simp; done) | (simp [*]; done) | (simp [*, World.frozen?_alloc_at, World.frozen?_alloc_past, lt2, lt3, lt4]; done))
          have hya3 : w.heap.size + 1 < w3.heap.size := by omega
          have hyb3 : w.heap.size + 1 + 1 < w3.heap.size := by omega
          go_wp2_with fail
          (with_reducible refine (HW0.out _).mono ?_)
          rintro e w4 ⟨rfl, b4⟩
          have hz4 := b4.size
          obtain ⟨hc4, hf4⟩ := bcell b4
          have B4 : Below w.heap.size w w4 := Below.trans (by repeat (first | (with_reducible refine Below.drew ?_) | (with_reducible refine below_drewN ?_ _) | (with_reducible refine Below.alloc ?_ ?_ _) | (with_reducible refine Below.setCell ?_ ?_ _) | (with_reducible assumption) | (with_reducible exact Below.refl _ _) | omega | (simp <;> omega))) (b4.mono (by first | omega | (simp <;> omega)))
          (try simp at hz4)
          have hy4 : w.heap.size < w4.heap.size := by omega
          clear b4
          have kc4_0_0 : w4.cell? ⟨w.heap.size, 0, none⟩ = some (.int .i64 s) := (hc4 (w.heap.size) 0 (by first | omega | (simp <;> omega))).trans (by first | (simp; done) | (simp [*]; done) | (simp [*, World.cell?_alloc_at, World.cell?_alloc_past, World.cell?_alloc_lt, lt2, lt3, lt4]; done))
          have kc4_1_0 : w4.cell? ⟨w.heap.size, 1, none⟩ = some (.int .i64 l) := (hc4 (w.heap.size) 1 (by first | omega | (simp <;> omega))).trans (by first | (simp; done) | (simp [*]; done) | (simp [*, World.cell?_alloc_at, World.cell?_alloc_past, World.cell?_alloc_lt, lt2, lt3, lt4]; done))
          have kc4_2_0 : w4.cell? ⟨w.heap.size, 2, none⟩ = some (.int .i64 j) := (hc4 (w.heap.size) 2 (by first | omega | (simp <;> omega))).trans (by first | (simp; done) | (simp [*]; done) | (simp [*, World.cell?_alloc_at, World.cell?_alloc_past, World.cell?_alloc_lt, lt2, lt3, lt4]; done))
          have kc4_0_1 : w4.cell? ⟨w.heap.size + 1, 0, none⟩ = some (.int .i64 s) := (hc4 (w.heap.size + 1) 0 (by first | omega | (simp <;> omega))).trans (by first | (simp; done) | (simp [*]; done) | (simp [*, World.cell?_alloc_at, World.cell?_alloc_past, World.cell?_alloc_lt, lt2, lt3, lt4]; done))
          have kc4_1_1 : w4.cell? ⟨w.heap.size + 1, 1, none⟩ = some (.int .i64 l') := (hc4 (w.heap.size + 1) 1 (by first | omega | (simp <;> omega))).trans (by first | (simp; done) | (simp [*]; done) | (simp [*, World.cell?_alloc_at, World.cell?_alloc_past, World.cell?_alloc_lt, lt2, lt3, lt4]; done))
          have kc4_2_1 : w4.cell? ⟨w.heap.size + 1, 2, none⟩ = some (.int .i64 j') := (hc4 (w.heap.size + 1) 2 (by first | omega | (simp <;> omega))).trans (by first | (simp; done) | (simp [*]; done) | (simp [*, World.cell?_alloc_at, World.cell?_alloc_past, World.cell?_alloc_lt, lt2, lt3, lt4]; done))
          have kc4_0_2 : w4.cell? ⟨w.heap.size + 1 + 1, 0, none⟩ = some (.int .i64 0) := (hc4 (w.heap.size + 1 + 1) 0 (by first | omega | (simp <;> omega))).trans (by first | (simp; done) | (simp [*]; done) | (simp [*, World.cell?_alloc_at, World.cell?_alloc_past, World.cell?_alloc_lt, lt2, lt3, lt4]; done))
          have kc4_1_2 : w4.cell? ⟨w.heap.size + 1 + 1, 1, none⟩ = some (.int .i64 0) := (hc4 (w.heap.size + 1 + 1) 1 (by first | omega | (simp <;> omega))).trans (by first | (simp; done) | (simp [*]; done) | (simp [*, World.cell?_alloc_at, World.cell?_alloc_past, World.cell?_alloc_lt, lt2, lt3, lt4]; done))
          have kf4_0_2 : w4.frozen? ⟨w.heap.size + 1 + 1, 0, none⟩ = false := (hf4 (w.heap.size + 1 + 1) 0 (by first | omega | (simp <;> omega))).trans (by first | (simp; done) | (simp [*]; done) | (simp [*, World.frozen?_alloc_at, World.frozen?_alloc_past, lt2, lt3, lt4]; done))
          have kf4_1_2 : w4.frozen? ⟨w.heap.size + 1 + 1, 1, none⟩ = false := (hf4 (w.heap.size + 1 + 1) 1 (by first | omega | (simp <;> omega))).trans (by first | (simp; done) | (simp [*]; done) | (simp [*, World.frozen?_alloc_at, World.frozen?_alloc_past, lt2, lt3, lt4]; done))
          have hya4 : w.heap.size + 1 < w4.heap.size := by omega
          have hyb4 : w.heap.size + 1 + 1 < w4.heap.size := by omega
          go_wp2
          refine bodyPost_ret (v := .tuple #[.agg #[.int .i64 0, .int .i64 1], .bool true]) (by simp [results, Try.results21, go_sem, *, lt2, lt3, lt4, lt5, lt6]) rfl ⟨by rw [HR.out]; rfl, (by repeat (first | (with_reducible refine Below.drew ?_) | (with_reducible refine below_drewN ?_ _) | (with_reducible refine Below.alloc ?_ ?_ _) | (with_reducible refine Below.setCell ?_ ?_ _) | (with_reducible assumption) | (with_reducible exact Below.refl _ _) | omega | (simp <;> omega)))⟩
        · have hr := hS h4
          have hdom := hD h4
          have HX := Lib.hid (fun W => HO.out W _ h4)
          have hyes := @root_yes (sumI (2 * l) j s j' (2 * l') 2) 1 (den6 (2 * l) j s j' (2 * l') 2)
          have hno := @root_no (sumI (2 * l) j s j' (2 * l') 2) 1 (den6 (2 * l) j s j' (2 * l') 2)
          have HJ := Lib.hid (fun W => iSixJ (2 * l) j s j' (2 * l') W hdom (HS6 _ _ _ _ _ hdom))
          rw [root_sixI hdom] at hyes hno
          unfold rtV at HJ
          generalize sixR (2 * l) j s j' (2 * l') = q at *
          obtain ⟨qn, qd, qok⟩ := q
          generalize cmpI (sumI (2 * l) j s j' (2 * l') 2) 0 = sg at *
          generalize rootR (sumI (2 * l) j s j' (2 * l') 2) 1 (den6 (2 * l) j s j' (2 * l') 2) = rt at *
          clear hdom hZ hS hD h4 HO HS6
          cases qok
          · have hr2 := hno rfl
            subst hr2
            have HR := Lib.hid (hr.trans (if_neg (by simp)))
            clear hr hyes hno
            go_enter Try.func21, Try.ntmps21
            go_wp2_with fail
            (with_reducible refine (HV.out _).mono ?_)
            rintro e w1 ⟨rfl, b1⟩
            have hz1 := b1.size
            obtain ⟨hc1, hf1⟩ := bcell b1
            have B1 : Below w.heap.size w w1 := Below.trans (by repeat (first | (with_reducible refine Below.drew ?_) | (with_reducible refine below_drewN ?_ _) | (with_reducible refine Below.alloc ?_ ?_ _) | (with_reducible refine Below.setCell ?_ ?_ _) | (with_reducible assumption) | (with_reducible exact Below.refl _ _) | omega | (simp <;> omega))) (b1.mono (by first | omega | (simp <;> omega)))
            (try simp at hz1)
            have hy1 : w.heap.size < w1.heap.size := by omega
            clear b1
            have kc1_0_0 : w1.cell? ⟨w.heap.size, 0, none⟩ = some (.int .i64 s) := (hc1 (w.heap.size) 0 (by first | omega | (simp <;> omega))).trans (by first | (simp; done) | (simp [*]; done) | (simp [*, World.cell?_alloc_at, World.cell?_alloc_past, World.cell?_alloc_lt, lt2, lt3, lt4]; done))
            have kc1_1_0 : w1.cell? ⟨w.heap.size, 1, none⟩ = some (.int .i64 l) := (hc1 (w.heap.size) 1 (by first | omega | (simp <;> omega))).trans (by first | (simp; done) | (simp [*]; done) | (simp [*, World.cell?_alloc_at, World.cell?_alloc_past, World.cell?_alloc_lt, lt2, lt3, lt4]; done))
            have kc1_2_0 : w1.cell? ⟨w.heap.size, 2, none⟩ = some (.int .i64 j) := (hc1 (w.heap.size) 2 (by first | omega | (simp <;> omega))).trans (by first | (simp; done) | (simp [*]; done) | (simp [*, World.cell?_alloc_at, World.cell?_alloc_past, World.cell?_alloc_lt, lt2, lt3, lt4]; done))
            have kc1_0_1 : w1.cell? ⟨w.heap.size + 1, 0, none⟩ = some (.int .i64 s) := (hc1 (w.heap.size + 1) 0 (by first | omega | (simp <;> omega))).trans (by first | (simp; done) | (simp [*]; done) | (simp [*, World.cell?_alloc_at, World.cell?_alloc_past, World.cell?_alloc_lt, lt2, lt3, lt4]; done))
            have kc1_1_1 : w1.cell? ⟨w.heap.size + 1, 1, none⟩ = some (.int .i64 l') := (hc1 (w.heap.size + 1) 1 (by first | omega | (simp <;> omega))).trans (by first | (simp; done) | (simp [*]; done) | (simp [*, World.cell?_alloc_at, World.cell?_alloc_past, World.cell?_alloc_lt, lt2, lt3, lt4]; done))
            have kc1_2_1 : w1.cell? ⟨w.heap.size + 1, 2, none⟩ = some (.int .i64 j') := (hc1 (w.heap.size + 1) 2 (by first | omega | (simp <;> omega))).trans (by first | (simp; done) | (simp [*]; done) | (simp [*, World.cell?_alloc_at, World.cell?_alloc_past, World.cell?_alloc_lt, lt2, lt3, lt4]; done))
            have kc1_0_2 : w1.cell? ⟨w.heap.size + 1 + 1, 0, none⟩ = some (.int .i64 0) := (hc1 (w.heap.size + 1 + 1) 0 (by first | omega | (simp <;> omega))).trans (by first | (simp; done) | (simp [*]; done) | (simp [*, World.cell?_alloc_at, World.cell?_alloc_past, World.cell?_alloc_lt, lt2, lt3, lt4]; done))
            have kc1_1_2 : w1.cell? ⟨w.heap.size + 1 + 1, 1, none⟩ = some (.int .i64 0) := (hc1 (w.heap.size + 1 + 1) 1 (by first | omega | (simp <;> omega))).trans (by first | (simp; done) | (simp [*]; done) | (simp [*, World.cell?_alloc_at, World.cell?_alloc_past, World.cell?_alloc_lt, lt2, lt3, lt4]; done))
            have kf1_0_2 : w1.frozen? ⟨w.heap.size + 1 + 1, 0, none⟩ = false := (hf1 (w.heap.size + 1 + 1) 0 (by first | omega | (simp <;> omega))).trans (by first | (simp; done) | (simp [*]; done) | (simp [*, World.frozen?_alloc_at, World.frozen?_alloc_past, lt2, lt3, lt4]; done))
            have kf1_1_2 : w1.frozen? ⟨w.heap.size + 1 + 1, 1, none⟩ = false := (hf1 (w.heap.size + 1 + 1) 1 (by first | omega | (simp <;> omega))).trans (by first | (simp; done) | (simp [*]; done) | (simp [*, World.frozen?_alloc_at, World.frozen?_alloc_past, lt2, lt3, lt4]; done))
            have hya1 : w.heap.size + 1 < w1.heap.size := by omega
            have hyb1 : w.heap.size + 1 + 1 < w1.heap.size := by omega
            go_wp2_with fail
            (with_reducible refine (HW.out _).mono ?_)
            rintro e w2 ⟨rfl, b2⟩
            have hz2 := b2.size
            obtain ⟨hc2, hf2⟩ := bcell b2
            have B2 : Below w.heap.size w w2 := Below.trans (by repeat (first | (with_reducible refine Below.drew ?_) | (with_reducible refine below_drewN ?_ _) | (with_reducible refine Below.alloc ?_ ?_ _) | (with_reducible refine Below.setCell ?_ ?_ _) | (with_reducible assumption) | (with_reducible exact Below.refl _ _) | omega | (simp <;> omega))) (b2.mono (by first | omega | (simp <;> omega)))
            (try simp at hz2)
            have hy2 : w.heap.size < w2.heap.size := by omega
            clear b2
            have kc2_0_0 : w2.cell? ⟨w.heap.size, 0, none⟩ = some (.int .i64 s) := (hc2 (w.heap.size) 0 (by first | omega | (simp <;> omega))).trans (by first | (simp; done) | (simp [*]; done) | (simp [*, World.cell?_alloc_at, World.cell?_alloc_past, World.cell?_alloc_lt, lt2, lt3, lt4]; done))
            have kc2_1_0 : w2.cell? ⟨w.heap.size, 1, none⟩ = some (.int .i64 l) := (hc2 (w.heap.size) 1 (by first | omega | (simp <;> omega))).trans (by first | (simp; done) | (simp [*]; done) | (simp [*, World.cell?_alloc_at, World.cell?_alloc_past, World.cell?_alloc_lt, lt2, lt3, lt4]; done))
            have kc2_2_0 : w2.cell? ⟨w.heap.size, 2, none⟩ = some (.int .i64 j) := (hc2 (w.heap.size) 2 (by first | omega | (simp <;> omega))).trans (by first | (simp; done) | (simp [*]; done) | (simp [*, World.cell?_alloc_at, World.cell?_alloc_past, World.cell?_alloc_lt, lt2, lt3, lt4]; done))
            have kc2_0_1 : w2.cell? ⟨w.heap.size + 1, 0, none⟩ = some (.int .i64 s) := (hc2 (w.heap.size + 1) 0 (by first | omega | (simp <;> omega))).trans (by first | (simp; done) | (simp [*]; done) | (simp [*, World.cell?_alloc_at, World.cell?_alloc_past, World.cell?_alloc_lt, lt2, lt3, lt4]; done))
            have kc2_1_1 : w2.cell? ⟨w.heap.size + 1, 1, none⟩ = some (.int .i64 l') := (hc2 (w.heap.size + 1) 1 (by first | omega | (simp <;> omega))).trans (by first | (simp; done) | (simp [*]; done) | (simp [*, World.cell?_alloc_at, World.cell?_alloc_past, World.cell?_alloc_lt, lt2, lt3, lt4]; done))
            have kc2_2_1 : w2.cell? ⟨w.heap.size + 1, 2, none⟩ = some (.int .i64 j') := (hc2 (w.heap.size + 1) 2 (by first | omega | (simp <;> omega))).trans (by first | (simp; done) | (simp [*]; done) | (simp [*, World.cell?_alloc_at, World.cell?_alloc_past, World.cell?_alloc_lt, lt2, lt3, lt4]; done))
            have kc2_0_2 : w2.cell? ⟨w.heap.size + 1 + 1, 0, none⟩ = some (.int .i64 0) := (hc2 (w.heap.size + 1 + 1) 0 (by first | omega | (simp <;> omega))).trans (by first | (simp; done) | (simp [*]; done) | (simp [*, World.cell?_alloc_at, World.cell?_alloc_past, World.cell?_alloc_lt, lt2, lt3, lt4]; done))
            have kc2_1_2 : w2.cell? ⟨w.heap.size + 1 + 1, 1, none⟩ = some (.int .i64 0) := (hc2 (w.heap.size + 1 + 1) 1 (by first | omega | (simp <;> omega))).trans (by first | (simp; done) | (simp [*]; done) | (simp [*, World.cell?_alloc_at, World.cell?_alloc_past, World.cell?_alloc_lt, lt2, lt3, lt4]; done))
            have kf2_0_2 : w2.frozen? ⟨w.heap.size + 1 + 1, 0, none⟩ = false := (hf2 (w.heap.size + 1 + 1) 0 (by first | omega | (simp <;> omega))).trans (by first | (simp; done) | (simp [*]; done) | (simp [*, World.frozen?_alloc_at, World.frozen?_alloc_past, lt2, lt3, lt4]; done))
            have kf2_1_2 : w2.frozen? ⟨w.heap.size + 1 + 1, 1, none⟩ = false := (hf2 (w.heap.size + 1 + 1) 1 (by first | omega | (simp <;> omega))).trans (by first | (simp; done) | (simp [*]; done) | (simp [*, World.frozen?_alloc_at, World.frozen?_alloc_past, lt2, lt3, lt4]; done))
            have hya2 : w.heap.size + 1 < w2.heap.size := by omega
            have hyb2 : w.heap.size + 1 + 1 < w2.heap.size := by omega
            go_wp2_with fail
            (with_reducible refine (HX.out _).mono ?_)
            rintro e w3 ⟨rfl, b3⟩
            have hz3 := b3.size
            obtain ⟨hc3, hf3⟩ := bcell b3
            have B3 : Below w.heap.size w w3 := Below.trans (by repeat (first | (with_reducible refine Below.drew ?_) | (with_reducible refine below_drewN ?_ _) | (with_reducible refine Below.alloc ?_ ?_ _) | (with_reducible refine Below.setCell ?_ ?_ _) | (with_reducible assumption) | (with_reducible exact Below.refl _ _) | omega | (simp <;> omega))) (b3.mono (by first | omega | (simp <;> omega)))
            (try simp at hz3)
            have hy3 : w.heap.size < w3.heap.size := by omega
            clear b3
            have kc3_0_0 : w3.cell? ⟨w.heap.size, 0, none⟩ = some (.int .i64 s) := (hc3 (w.heap.size) 0 (by first | omega | (simp <;> omega))).trans (by first | (simp; done) | (simp [*]; done) | (simp [*, World.cell?_alloc_at, World.cell?_alloc_past, World.cell?_alloc_lt, lt2, lt3, lt4]; done))
            have kc3_1_0 : w3.cell? ⟨w.heap.size, 1, none⟩ = some (.int .i64 l) := (hc3 (w.heap.size) 1 (by first | omega | (simp <;> omega))).trans (by first | (simp; done) | (simp [*]; done) | (simp [*, World.cell?_alloc_at, World.cell?_alloc_past, World.cell?_alloc_lt, lt2, lt3, lt4]; done))
            have kc3_2_0 : w3.cell? ⟨w.heap.size, 2, none⟩ = some (.int .i64 j) := (hc3 (w.heap.size) 2 (by first | omega | (simp <;> omega))).trans (by first | (simp; done) | (simp [*]; done) | (simp [*, World.cell?_alloc_at, World.cell?_alloc_past, World.cell?_alloc_lt, lt2, lt3, lt4]; done))
            have kc3_0_1 : w3.cell? ⟨w.heap.size + 1, 0, none⟩ = some (.int .i64 s) := (hc3 (w.heap.size + 1) 0 (by first | omega | (simp <;> omega))).trans (by first | (simp; done) | (simp [*]; done) | (simp [*, World.cell?_alloc_at, World.cell?_alloc_past, World.cell?_alloc_lt, lt2, lt3, lt4]; done))
            have kc3_1_1 : w3.cell? ⟨w.heap.size + 1, 1, none⟩ = some (.int .i64 l') := (hc3 (w.heap.size + 1) 1 (by first | omega | (simp <;> omega))).trans (by first | (simp; done) | (simp [*]; done) | (simp [*, World.cell?_alloc_at, World.cell?_alloc_past, World.cell?_alloc_lt, lt2, lt3, lt4]; done))
            have kc3_2_1 : w3.cell? ⟨w.heap.size + 1, 2, none⟩ = some (.int .i64 j') := (hc3 (w.heap.size + 1) 2 (by first | omega | (simp <;> omega))).trans (by first | (simp; done) | (simp [*]; done) | (simp [*, World.cell?_alloc_at, World.cell?_alloc_past, World.cell?_alloc_lt, lt2, lt3, lt4]; done))
            have kc3_0_2 : w3.cell? ⟨w.heap.size + 1 + 1, 0, none⟩ = some (.int .i64 0) := (hc3 (w.heap.size + 1 + 1) 0 (by first | omega | (simp <;> omega))).trans (by first | (simp; done) | (simp [*]; done) | (simp [*, World.cell?_alloc_at, World.cell?_alloc_past, World.cell?_alloc_lt, lt2, lt3, lt4]; done))
            have kc3_1_2 : w3.cell? ⟨w.heap.size + 1 + 1, 1, none⟩ = some (.int .i64 0) := (hc3 (w.heap.size + 1 + 1) 1 (by first | omega | (simp <;> omega))).trans (by first | (simp; done) | (simp [*]; done) | (simp [*, World.cell?_alloc_at, World.cell?_alloc_past, World.cell?_alloc_lt, lt2, lt3, lt4]; done))
            have kf3_0_2 : w3.frozen? ⟨w.heap.size + 1 + 1, 0, none⟩ = false := (hf3 (w.heap.size + 1 + 1) 0 (by first | omega | (simp <;> omega))).trans (by first | (simp; done) | (simp [*]; done) | (simp [*, World.frozen?_alloc_at, World.frozen?_alloc_past, lt2, lt3, lt4]; done))
            have kf3_1_2 : w3.frozen? ⟨w.heap.size + 1 + 1, 1, none⟩ = false := (hf3 (w.heap.size + 1 + 1) 1 (by first | omega | (simp <;> omega))).trans (by first | (simp; done) | (simp [*]; done) | (simp [*, World.frozen?_alloc_at, World.frozen?_alloc_past, lt2, lt3, lt4]; done))
            have hya3 : w.heap.size + 1 < w3.heap.size := by omega
            have hyb3 : w.heap.size + 1 + 1 < w3.heap.size := by omega
            have kc3_0_0 : w3.cell? ⟨w2.heap.size, 0, none⟩ = some (.int .i64 (2 * l)) := (hc3 (w2.heap.size) 0 (by first | omega | (simp <;> omega))).trans (by first | (simp; done) | (simp [*]; done) | (simp [*, World.cell?_alloc_at, World.cell?_alloc_past, World.cell?_alloc_lt, lt2, lt3, lt4]; done))
            have kc3_1_0 : w3.cell? ⟨w2.heap.size, 1, none⟩ = some (.int .i64 j) := (hc3 (w2.heap.size) 1 (by first | omega | (simp <;> omega))).trans (by first | (simp; done) | (simp [*]; done) | (simp [*, World.cell?_alloc_at, World.cell?_alloc_past, World.cell?_alloc_lt, lt2, lt3, lt4]; done))
            have kc3_2_0 : w3.cell? ⟨w2.heap.size, 2, none⟩ = some (.int .i64 s) := (hc3 (w2.heap.size) 2 (by first | omega | (simp <;> omega))).trans (by first | (simp; done) | (simp [*]; done) | (simp [*, World.cell?_alloc_at, World.cell?_alloc_past, World.cell?_alloc_lt, lt2, lt3, lt4]; done))
            have kc3_3_0 : w3.cell? ⟨w2.heap.size, 3, none⟩ = some (.int .i64 j') := (hc3 (w2.heap.size) 3 (by first | omega | (simp <;> omega))).trans (by first | (simp; done) | (simp [*]; done) | (simp [*, World.cell?_alloc_at, World.cell?_alloc_past, World.cell?_alloc_lt, lt2, lt3, lt4]; done))
            have kc3_4_0 : w3.cell? ⟨w2.heap.size, 4, none⟩ = some (.int .i64 (2 * l')) := (hc3 (w2.heap.size) 4 (by first | omega | (simp <;> omega))).trans (by first | (simp; done) | (simp [*]; done) | (simp [*, World.cell?_alloc_at, World.cell?_alloc_past, World.cell?_alloc_lt, lt2, lt3, lt4]; done))
            have kc3_5_0 : w3.cell? ⟨w2.heap.size, 5, none⟩ = some (.int .i64 2) := (hc3 (w2.heap.size) 5 (by first | omega | (simp <;> omega))).trans (by first | (simp; done) | (simp [*]; done) | (simp [*, World.cell?_alloc_at, World.cell?_alloc_past, World.cell?_alloc_lt, lt2, lt3, lt4]; done))
            go_wp2_with fail
            (with_reducible refine (HJ.out _).mono ?_)
            rintro e w4 ⟨rfl, b4⟩
            have hz4 := b4.size
            obtain ⟨hc4, hf4⟩ := bcell b4
            have B4 : Below w.heap.size w w4 := Below.trans (by repeat (first | (with_reducible refine Below.drew ?_) | (with_reducible refine below_drewN ?_ _) | (with_reducible refine Below.alloc ?_ ?_ _) | (with_reducible refine Below.setCell ?_ ?_ _) | (with_reducible assumption) | (with_reducible exact Below.refl _ _) | omega | (simp <;> omega))) (b4.mono (by first | omega | (simp <;> omega)))
            (try simp at hz4)
            have hy4 : w.heap.size < w4.heap.size := by omega
            clear b4
            have kc4_0_0 : w4.cell? ⟨w.heap.size, 0, none⟩ = some (.int .i64 s) := (hc4 (w.heap.size) 0 (by first | omega | (simp <;> omega))).trans (by first | (simp; done) | (simp [*]; done) | (simp [*, World.cell?_alloc_at, World.cell?_alloc_past, World.cell?_alloc_lt, lt2, lt3, lt4]; done))
            have kc4_1_0 : w4.cell? ⟨w.heap.size, 1, none⟩ = some (.int .i64 l) := (hc4 (w.heap.size) 1 (by first | omega | (simp <;> omega))).trans (by first | (simp; done) | (simp [*]; done) | (simp [*, World.cell?_alloc_at, World.cell?_alloc_past, World.cell?_alloc_lt, lt2, lt3, lt4]; done))
            have kc4_2_0 : w4.cell? ⟨w.heap.size, 2, none⟩ = some (.int .i64 j) := (hc4 (w.heap.size) 2 (by first | omega | (simp <;> omega))).trans (by first | (simp; done) | (simp [*]; done) | (simp [*, World.cell?_alloc_at, World.cell?_alloc_past, World.cell?_alloc_lt, lt2, lt3, lt4]; done))
            have kc4_0_1 : w4.cell? ⟨w.heap.size + 1, 0, none⟩ = some (.int .i64 s) := (hc4 (w.heap.size + 1) 0 (by first | omega | (simp <;> omega))).trans (by first | (simp; done) | (simp [*]; done) | (simp [*, World.cell?_alloc_at, World.cell?_alloc_past, World.cell?_alloc_lt, lt2, lt3, lt4]; done))
            have kc4_1_1 : w4.cell? ⟨w.heap.size + 1, 1, none⟩ = some (.int .i64 l') := (hc4 (w.heap.size + 1) 1 (by first | omega | (simp <;> omega))).trans (by first | (simp; done) | (simp [*]; done) | (simp [*, World.cell?_alloc_at, World.cell?_alloc_past, World.cell?_alloc_lt, lt2, lt3, lt4]; done))
            have kc4_2_1 : w4.cell? ⟨w.heap.size + 1, 2, none⟩ = some (.int .i64 j') := (hc4 (w.heap.size + 1) 2 (by first | omega | (simp <;> omega))).trans (by first | (simp; done) | (simp [*]; done) | (simp [*, World.cell?_alloc_at, World.cell?_alloc_past, World.cell?_alloc_lt, lt2, lt3, lt4]; done))
            have kc4_0_2 : w4.cell? ⟨w.heap.size + 1 + 1, 0, none⟩ = some (.int .i64 0) := (hc4 (w.heap.size + 1 + 1) 0 (by first | omega | (simp <;> omega))).trans (by first | (simp; done) | (simp [*]; done) | (simp [*, World.cell?_alloc_at, World.cell?_alloc_past, World.cell?_alloc_lt, lt2, lt3, lt4]; done))
            have kc4_1_2 : w4.cell? ⟨w.heap.size + 1 + 1, 1, none⟩ = some (.int .i64 0) := (hc4 (w.heap.size + 1 + 1) 1 (by first | omega | (simp <;> omega))).trans (by first | (simp; done) | (simp [*]; done) | (simp [*, World.cell?_alloc_at, World.cell?_alloc_past, World.cell?_alloc_lt, lt2, lt3, lt4]; done))
            have kf4_0_2 : w4.frozen? ⟨w.heap.size + 1 + 1, 0, none⟩ = false := (hf4 (w.heap.size + 1 + 1) 0 (by first | omega | (simp <;> omega))).trans (by first | (simp; done) | (simp [*]; done) | (simp [*, World.frozen?_alloc_at, World.frozen?_alloc_past, lt2, lt3, lt4]; done))
            have kf4_1_2 : w4.frozen? ⟨w.heap.size + 1 + 1, 1, none⟩ = false := (hf4 (w.heap.size + 1 + 1) 1 (by first | omega | (simp <;> omega))).trans (by first | (simp; done) | (simp [*]; done) | (simp [*, World.frozen?_alloc_at, World.frozen?_alloc_past, lt2, lt3, lt4]; done))
            have hya4 : w.heap.size + 1 < w4.heap.size := by omega
            have hyb4 : w.heap.size + 1 + 1 < w4.heap.size := by omega
            go_wp2
            refine bodyPost_ret (v := .tuple #[.agg #[.int .i64 0, .int .i64 0], .bool false]) (by simp [results, Try.results21, go_sem, *, lt2, lt3, lt4, lt5, lt6]) rfl ⟨by rw [HR.out]; rfl, (by repeat (first | (with_reducible refine Below.drew ?_) | (with_reducible refine below_drewN ?_ _) | (with_reducible refine Below.alloc ?_ ?_ _) | (with_reducible refine Below.setCell ?_ ?_ _) | (with_reducible assumption) | (with_reducible exact Below.refl _ _) | omega | (simp <;> omega)))⟩
          · have hr2 := hyes rfl
            subst hr2
            have HR := Lib.hid (hr.trans (if_pos rfl))
            have HM := Lib.hid (fun W => iRatMul qn qd ((j + 1) * (j' + 1)) 1 W)
            have HWH := Lib.hid (fun W => iwhole ((j + 1) * (j' + 1)) W)
            clear hr hyes hno
            obtain ⟨m1, m2⟩ := mul_bds (a := j + 1) (b := j' + 1) (A := 7) (B := 7) (by omega) (by omega) (by omega) (by omega) (by omega)
            unfold roV at HM ⊢
            rw [HR.out]
            show Calls _ _ _ _ (Gives (.tuple #[.agg #[.int .i64 (mulR qn qd ((j + 1) * (j' + 1)) 1).n, .int .i64 (mulR qn qd ((j + 1) * (j' + 1)) 1).d], .bool (mulR qn qd ((j + 1) * (j' + 1)) 1).ok]) w)
            generalize mulR qn qd ((j + 1) * (j' + 1)) 1 = r at *
            obtain ⟨rn, rd, rok⟩ := r
            go_enter Try.func21, Try.ntmps21
            go_wp2_with fail
            (with_reducible refine (HV.out _).mono ?_)
            rintro e w1 ⟨rfl, b1⟩
            have hz1 := b1.size
            obtain ⟨hc1, hf1⟩ := bcell b1
            have B1 : Below w.heap.size w w1 := Below.trans (by repeat (first | (with_reducible refine Below.drew ?_) | (with_reducible refine below_drewN ?_ _) | (with_reducible refine Below.alloc ?_ ?_ _) | (with_reducible refine Below.setCell ?_ ?_ _) | (with_reducible assumption) | (with_reducible exact Below.refl _ _) | omega | (simp <;> omega))) (b1.mono (by first | omega | (simp <;> omega)))
            (try simp at hz1)
            have hy1 : w.heap.size < w1.heap.size := by omega
            clear b1
            have kc1_0_0 : w1.cell? ⟨w.heap.size, 0, none⟩ = some (.int .i64 s) := (hc1 (w.heap.size) 0 (by first | omega | (simp <;> omega))).trans (by first | (simp; done) | (simp [*]; done) | (simp [*, World.cell?_alloc_at, World.cell?_alloc_past, World.cell?_alloc_lt, lt2, lt3, lt4]; done))
            have kc1_1_0 : w1.cell? ⟨w.heap.size, 1, none⟩ = some (.int .i64 l) := (hc1 (w.heap.size) 1 (by first | omega | (simp <;> omega))).trans (by first | (simp; done) | (simp [*]; done) | (simp [*, World.cell?_alloc_at, World.cell?_alloc_past, World.cell?_alloc_lt, lt2, lt3, lt4]; done))
            have kc1_2_0 : w1.cell? ⟨w.heap.size, 2, none⟩ = some (.int .i64 j) := (hc1 (w.heap.size) 2 (by first | omega | (simp <;> omega))).trans (by first | (simp; done) | (simp [*]; done) | (simp [*, World.cell?_alloc_at, World.cell?_alloc_past, World.cell?_alloc_lt, lt2, lt3, lt4]; done))
            have kc1_0_1 : w1.cell? ⟨w.heap.size + 1, 0, none⟩ = some (.int .i64 s) := (hc1 (w.heap.size + 1) 0 (by first | omega | (simp <;> omega))).trans (by first | (simp; done) | (simp [*]; done) | (simp [*, World.cell?_alloc_at, World.cell?_alloc_past, World.cell?_alloc_lt, lt2, lt3, lt4]; done))
            have kc1_1_1 : w1.cell? ⟨w.heap.size + 1, 1, none⟩ = some (.int .i64 l') := (hc1 (w.heap.size + 1) 1 (by first | omega | (simp <;> omega))).trans (by first | (simp; done) | (simp [*]; done) | (simp [*, World.cell?_alloc_at, World.cell?_alloc_past, World.cell?_alloc_lt, lt2, lt3, lt4]; done))
            have kc1_2_1 : w1.cell? ⟨w.heap.size + 1, 2, none⟩ = some (.int .i64 j') := (hc1 (w.heap.size + 1) 2 (by first | omega | (simp <;> omega))).trans (by first | (simp; done) | (simp [*]; done) | (simp [*, World.cell?_alloc_at, World.cell?_alloc_past, World.cell?_alloc_lt, lt2, lt3, lt4]; done))
            have kc1_0_2 : w1.cell? ⟨w.heap.size + 1 + 1, 0, none⟩ = some (.int .i64 0) := (hc1 (w.heap.size + 1 + 1) 0 (by first | omega | (simp <;> omega))).trans (by first | (simp; done) | (simp [*]; done) | (simp [*, World.cell?_alloc_at, World.cell?_alloc_past, World.cell?_alloc_lt, lt2, lt3, lt4]; done))
            have kc1_1_2 : w1.cell? ⟨w.heap.size + 1 + 1, 1, none⟩ = some (.int .i64 0) := (hc1 (w.heap.size + 1 + 1) 1 (by first | omega | (simp <;> omega))).trans (by first | (simp; done) | (simp [*]; done) | (simp [*, World.cell?_alloc_at, World.cell?_alloc_past, World.cell?_alloc_lt, lt2, lt3, lt4]; done))
            have kf1_0_2 : w1.frozen? ⟨w.heap.size + 1 + 1, 0, none⟩ = false := (hf1 (w.heap.size + 1 + 1) 0 (by first | omega | (simp <;> omega))).trans (by first | (simp; done) | (simp [*]; done) | (simp [*, World.frozen?_alloc_at, World.frozen?_alloc_past, lt2, lt3, lt4]; done))
            have kf1_1_2 : w1.frozen? ⟨w.heap.size + 1 + 1, 1, none⟩ = false := (hf1 (w.heap.size + 1 + 1) 1 (by first | omega | (simp <;> omega))).trans (by first | (simp; done) | (simp [*]; done) | (simp [*, World.frozen?_alloc_at, World.frozen?_alloc_past, lt2, lt3, lt4]; done))
            have hya1 : w.heap.size + 1 < w1.heap.size := by omega
            have hyb1 : w.heap.size + 1 + 1 < w1.heap.size := by omega
            go_wp2_with fail
            (with_reducible refine (HW.out _).mono ?_)
            rintro e w2 ⟨rfl, b2⟩
            have hz2 := b2.size
            obtain ⟨hc2, hf2⟩ := bcell b2
            have B2 : Below w.heap.size w w2 := Below.trans (by repeat (first | (with_reducible refine Below.drew ?_) | (with_reducible refine below_drewN ?_ _) | (with_reducible refine Below.alloc ?_ ?_ _) | (with_reducible refine Below.setCell ?_ ?_ _) | (with_reducible assumption) | (with_reducible exact Below.refl _ _) | omega | (simp <;> omega))) (b2.mono (by first | omega | (simp <;> omega)))
            (try simp at hz2)
            have hy2 : w.heap.size < w2.heap.size := by omega
            clear b2
            have kc2_0_0 : w2.cell? ⟨w.heap.size, 0, none⟩ = some (.int .i64 s) := (hc2 (w.heap.size) 0 (by first | omega | (simp <;> omega))).trans (by first | (simp; done) | (simp [*]; done) | (simp [*, World.cell?_alloc_at, World.cell?_alloc_past, World.cell?_alloc_lt, lt2, lt3, lt4]; done))
            have kc2_1_0 : w2.cell? ⟨w.heap.size, 1, none⟩ = some (.int .i64 l) := (hc2 (w.heap.size) 1 (by first | omega | (simp <;> omega))).trans (by first | (simp; done) | (simp [*]; done) | (simp [*, World.cell?_alloc_at, World.cell?_alloc_past, World.cell?_alloc_lt, lt2, lt3, lt4]; done))
            have kc2_2_0 : w2.cell? ⟨w.heap.size, 2, none⟩ = some (.int .i64 j) := (hc2 (w.heap.size) 2 (by first | omega | (simp <;> omega))).trans (by first | (simp; done) | (simp [*]; done) | (simp [*, World.cell?_alloc_at, World.cell?_alloc_past, World.cell?_alloc_lt, lt2, lt3, lt4]; done))
            have kc2_0_1 : w2.cell? ⟨w.heap.size + 1, 0, none⟩ = some (.int .i64 s) := (hc2 (w.heap.size + 1) 0 (by first | omega | (simp <;> omega))).trans (by first | (simp; done) | (simp [*]; done) | (simp [*, World.cell?_alloc_at, World.cell?_alloc_past, World.cell?_alloc_lt, lt2, lt3, lt4]; done))
            have kc2_1_1 : w2.cell? ⟨w.heap.size + 1, 1, none⟩ = some (.int .i64 l') := (hc2 (w.heap.size + 1) 1 (by first | omega | (simp <;> omega))).trans (by first | (simp; done) | (simp [*]; done) | (simp [*, World.cell?_alloc_at, World.cell?_alloc_past, World.cell?_alloc_lt, lt2, lt3, lt4]; done))
            have kc2_2_1 : w2.cell? ⟨w.heap.size + 1, 2, none⟩ = some (.int .i64 j') := (hc2 (w.heap.size + 1) 2 (by first | omega | (simp <;> omega))).trans (by first | (simp; done) | (simp [*]; done) | (simp [*, World.cell?_alloc_at, World.cell?_alloc_past, World.cell?_alloc_lt, lt2, lt3, lt4]; done))
            have kc2_0_2 : w2.cell? ⟨w.heap.size + 1 + 1, 0, none⟩ = some (.int .i64 0) := (hc2 (w.heap.size + 1 + 1) 0 (by first | omega | (simp <;> omega))).trans (by first | (simp; done) | (simp [*]; done) | (simp [*, World.cell?_alloc_at, World.cell?_alloc_past, World.cell?_alloc_lt, lt2, lt3, lt4]; done))
            have kc2_1_2 : w2.cell? ⟨w.heap.size + 1 + 1, 1, none⟩ = some (.int .i64 0) := (hc2 (w.heap.size + 1 + 1) 1 (by first | omega | (simp <;> omega))).trans (by first | (simp; done) | (simp [*]; done) | (simp [*, World.cell?_alloc_at, World.cell?_alloc_past, World.cell?_alloc_lt, lt2, lt3, lt4]; done))
            have kf2_0_2 : w2.frozen? ⟨w.heap.size + 1 + 1, 0, none⟩ = false := (hf2 (w.heap.size + 1 + 1) 0 (by first | omega | (simp <;> omega))).trans (by first | (simp; done) | (simp [*]; done) | (simp [*, World.frozen?_alloc_at, World.frozen?_alloc_past, lt2, lt3, lt4]; done))
            have kf2_1_2 : w2.frozen? ⟨w.heap.size + 1 + 1, 1, none⟩ = false := (hf2 (w.heap.size + 1 + 1) 1 (by first | omega | (simp <;> omega))).trans (by first | (simp; done) | (simp [*]; done) | (simp [*, World.frozen?_alloc_at, World.frozen?_alloc_past, lt2, lt3, lt4]; done))
            have hya2 : w.heap.size + 1 < w2.heap.size := by omega
            have hyb2 : w.heap.size + 1 + 1 < w2.heap.size := by omega
            go_wp2_with fail
            (with_reducible refine (HX.out _).mono ?_)
            rintro e w3 ⟨rfl, b3⟩
            have hz3 := b3.size
            obtain ⟨hc3, hf3⟩ := bcell b3
            have B3 : Below w.heap.size w w3 := Below.trans (by repeat (first | (with_reducible refine Below.drew ?_) | (with_reducible refine below_drewN ?_ _) | (with_reducible refine Below.alloc ?_ ?_ _) | (with_reducible refine Below.setCell ?_ ?_ _) | (with_reducible assumption) | (with_reducible exact Below.refl _ _) | omega | (simp <;> omega))) (b3.mono (by first | omega | (simp <;> omega)))
            (try simp at hz3)
            have hy3 : w.heap.size < w3.heap.size := by omega
            clear b3
            have kc3_0_0 : w3.cell? ⟨w.heap.size, 0, none⟩ = some (.int .i64 s) := (hc3 (w.heap.size) 0 (by first | omega | (simp <;> omega))).trans (by first | (simp; done) | (simp [*]; done) | (simp [*, World.cell?_alloc_at, World.cell?_alloc_past, World.cell?_alloc_lt, lt2, lt3, lt4]; done))
            have kc3_1_0 : w3.cell? ⟨w.heap.size, 1, none⟩ = some (.int .i64 l) := (hc3 (w.heap.size) 1 (by first | omega | (simp <;> omega))).trans (by first | (simp; done) | (simp [*]; done) | (simp [*, World.cell?_alloc_at, World.cell?_alloc_past, World.cell?_alloc_lt, lt2, lt3, lt4]; done))
            have kc3_2_0 : w3.cell? ⟨w.heap.size, 2, none⟩ = some (.int .i64 j) := (hc3 (w.heap.size) 2 (by first | omega | (simp <;> omega))).trans (by first | (simp; done) | (simp [*]; done) | (simp [*, World.cell?_alloc_at, World.cell?_alloc_past, World.cell?_alloc_lt, lt2, lt3, lt4]; done))
            have kc3_0_1 : w3.cell? ⟨w.heap.size + 1, 0, none⟩ = some (.int .i64 s) := (hc3 (w.heap.size + 1) 0 (by first | omega | (simp <;> omega))).trans (by first | (simp; done) | (simp [*]; done) | (simp [*, World.cell?_alloc_at, World.cell?_alloc_past, World.cell?_alloc_lt, lt2, lt3, lt4]; done))
            have kc3_1_1 : w3.cell? ⟨w.heap.size + 1, 1, none⟩ = some (.int .i64 l') := (hc3 (w.heap.size + 1) 1 (by first | omega | (simp <;> omega))).trans (by first | (simp; done) | (simp [*]; done) | (simp [*, World.cell?_alloc_at, World.cell?_alloc_past, World.cell?_alloc_lt, lt2, lt3, lt4]; done))
            have kc3_2_1 : w3.cell? ⟨w.heap.size + 1, 2, none⟩ = some (.int .i64 j') := (hc3 (w.heap.size + 1) 2 (by first | omega | (simp <;> omega))).trans (by first | (simp; done) | (simp [*]; done) | (simp [*, World.cell?_alloc_at, World.cell?_alloc_past, World.cell?_alloc_lt, lt2, lt3, lt4]; done))
            have kc3_0_2 : w3.cell? ⟨w.heap.size + 1 + 1, 0, none⟩ = some (.int .i64 0) := (hc3 (w.heap.size + 1 + 1) 0 (by first | omega | (simp <;> omega))).trans (by first | (simp; done) | (simp [*]; done) | (simp [*, World.cell?_alloc_at, World.cell?_alloc_past, World.cell?_alloc_lt, lt2, lt3, lt4]; done))
            have kc3_1_2 : w3.cell? ⟨w.heap.size + 1 + 1, 1, none⟩ = some (.int .i64 0) := (hc3 (w.heap.size + 1 + 1) 1 (by first | omega | (simp <;> omega))).trans (by first | (simp; done) | (simp [*]; done) | (simp [*, World.cell?_alloc_at, World.cell?_alloc_past, World.cell?_alloc_lt, lt2, lt3, lt4]; done))
            have kf3_0_2 : w3.frozen? ⟨w.heap.size + 1 + 1, 0, none⟩ = false := (hf3 (w.heap.size + 1 + 1) 0 (by first | omega | (simp <;> omega))).trans (by first | (simp; done) | (simp [*]; done) | (simp [*, World.frozen?_alloc_at, World.frozen?_alloc_past, lt2, lt3, lt4]; done))
            have kf3_1_2 : w3.frozen? ⟨w.heap.size + 1 + 1, 1, none⟩ = false := (hf3 (w.heap.size + 1 + 1) 1 (by first | omega | (simp <;> omega))).trans (by first | (simp; done) | (simp [*]; done) | (simp [*, World.frozen?_alloc_at, World.frozen?_alloc_past, lt2, lt3, lt4]; done))
            have hya3 : w.heap.size + 1 < w3.heap.size := by omega
            have hyb3 : w.heap.size + 1 + 1 < w3.heap.size := by omega
            have kc3_0_0 : w3.cell? ⟨w2.heap.size, 0, none⟩ = some (.int .i64 (2 * l)) := (hc3 (w2.heap.size) 0 (by first | omega | (simp <;> omega))).trans (by first | (simp; done) | (simp [*]; done) | (simp [*, World.cell?_alloc_at, World.cell?_alloc_past, World.cell?_alloc_lt, lt2, lt3, lt4]; done))
            have kc3_1_0 : w3.cell? ⟨w2.heap.size, 1, none⟩ = some (.int .i64 j) := (hc3 (w2.heap.size) 1 (by first | omega | (simp <;> omega))).trans (by first | (simp; done) | (simp [*]; done) | (simp [*, World.cell?_alloc_at, World.cell?_alloc_past, World.cell?_alloc_lt, lt2, lt3, lt4]; done))
            have kc3_2_0 : w3.cell? ⟨w2.heap.size, 2, none⟩ = some (.int .i64 s) := (hc3 (w2.heap.size) 2 (by first | omega | (simp <;> omega))).trans (by first | (simp; done) | (simp [*]; done) | (simp [*, World.cell?_alloc_at, World.cell?_alloc_past, World.cell?_alloc_lt, lt2, lt3, lt4]; done))
            have kc3_3_0 : w3.cell? ⟨w2.heap.size, 3, none⟩ = some (.int .i64 j') := (hc3 (w2.heap.size) 3 (by first | omega | (simp <;> omega))).trans (by first | (simp; done) | (simp [*]; done) | (simp [*, World.cell?_alloc_at, World.cell?_alloc_past, World.cell?_alloc_lt, lt2, lt3, lt4]; done))
            have kc3_4_0 : w3.cell? ⟨w2.heap.size, 4, none⟩ = some (.int .i64 (2 * l')) := (hc3 (w2.heap.size) 4 (by first | omega | (simp <;> omega))).trans (by first | (simp; done) | (simp [*]; done) | (simp [*, World.cell?_alloc_at, World.cell?_alloc_past, World.cell?_alloc_lt, lt2, lt3, lt4]; done))
            have kc3_5_0 : w3.cell? ⟨w2.heap.size, 5, none⟩ = some (.int .i64 2) := (hc3 (w2.heap.size) 5 (by first | omega | (simp <;> omega))).trans (by first | (simp; done) | (simp [*]; done) | (simp [*, World.cell?_alloc_at, World.cell?_alloc_past, World.cell?_alloc_lt, lt2, lt3, lt4]; done))
            go_wp2_with fail
            (with_reducible refine (HJ.out _).mono ?_)
            rintro e w4 ⟨rfl, b4⟩
            have hz4 := b4.size
            obtain ⟨hc4, hf4⟩ := bcell b4
            have B4 : Below w.heap.size w w4 := Below.trans (by repeat (first | (with_reducible refine Below.drew ?_) | (with_reducible refine below_drewN ?_ _) | (with_reducible refine Below.alloc ?_ ?_ _) | (with_reducible refine Below.setCell ?_ ?_ _) | (with_reducible assumption) | (with_reducible exact Below.refl _ _) | omega | (simp <;> omega))) (b4.mono (by first | omega | (simp <;> omega)))
            (try simp at hz4)
            have hy4 : w.heap.size < w4.heap.size := by omega
            clear b4
            have kc4_0_0 : w4.cell? ⟨w.heap.size, 0, none⟩ = some (.int .i64 s) := (hc4 (w.heap.size) 0 (by first | omega | (simp <;> omega))).trans (by first | (simp; done) | (simp [*]; done) | (simp [*, World.cell?_alloc_at, World.cell?_alloc_past, World.cell?_alloc_lt, lt2, lt3, lt4]; done))
            have kc4_1_0 : w4.cell? ⟨w.heap.size, 1, none⟩ = some (.int .i64 l) := (hc4 (w.heap.size) 1 (by first | omega | (simp <;> omega))).trans (by first | (simp; done) | (simp [*]; done) | (simp [*, World.cell?_alloc_at, World.cell?_alloc_past, World.cell?_alloc_lt, lt2, lt3, lt4]; done))
            have kc4_2_0 : w4.cell? ⟨w.heap.size, 2, none⟩ = some (.int .i64 j) := (hc4 (w.heap.size) 2 (by first | omega | (simp <;> omega))).trans (by first | (simp; done) | (simp [*]; done) | (simp [*, World.cell?_alloc_at, World.cell?_alloc_past, World.cell?_alloc_lt, lt2, lt3, lt4]; done))
            have kc4_0_1 : w4.cell? ⟨w.heap.size + 1, 0, none⟩ = some (.int .i64 s) := (hc4 (w.heap.size + 1) 0 (by first | omega | (simp <;> omega))).trans (by first | (simp; done) | (simp [*]; done) | (simp [*, World.cell?_alloc_at, World.cell?_alloc_past, World.cell?_alloc_lt, lt2, lt3, lt4]; done))
            have kc4_1_1 : w4.cell? ⟨w.heap.size + 1, 1, none⟩ = some (.int .i64 l') := (hc4 (w.heap.size + 1) 1 (by first | omega | (simp <;> omega))).trans (by first | (simp; done) | (simp [*]; done) | (simp [*, World.cell?_alloc_at, World.cell?_alloc_past, World.cell?_alloc_lt, lt2, lt3, lt4]; done))
            have kc4_2_1 : w4.cell? ⟨w.heap.size + 1, 2, none⟩ = some (.int .i64 j') := (hc4 (w.heap.size + 1) 2 (by first | omega | (simp <;> omega))).trans (by first | (simp; done) | (simp [*]; done) | (simp [*, World.cell?_alloc_at, World.cell?_alloc_past, World.cell?_alloc_lt, lt2, lt3, lt4]; done))
            have kc4_0_2 : w4.cell? ⟨w.heap.size + 1 + 1, 0, none⟩ = some (.int .i64 0) := (hc4 (w.heap.size + 1 + 1) 0 (by first | omega | (simp <;> omega))).trans (by first | (simp; done) | (simp [*]; done) | (simp [*, World.cell?_alloc_at, World.cell?_alloc_past, World.cell?_alloc_lt, lt2, lt3, lt4]; done))
            have kc4_1_2 : w4.cell? ⟨w.heap.size + 1 + 1, 1, none⟩ = some (.int .i64 0) := (hc4 (w.heap.size + 1 + 1) 1 (by first | omega | (simp <;> omega))).trans (by first | (simp; done) | (simp [*]; done) | (simp [*, World.cell?_alloc_at, World.cell?_alloc_past, World.cell?_alloc_lt, lt2, lt3, lt4]; done))
            have kf4_0_2 : w4.frozen? ⟨w.heap.size + 1 + 1, 0, none⟩ = false := (hf4 (w.heap.size + 1 + 1) 0 (by first | omega | (simp <;> omega))).trans (by first | (simp; done) | (simp [*]; done) | (simp [*, World.frozen?_alloc_at, World.frozen?_alloc_past, lt2, lt3, lt4]; done))
            have kf4_1_2 : w4.frozen? ⟨w.heap.size + 1 + 1, 1, none⟩ = false := (hf4 (w.heap.size + 1 + 1) 1 (by first | omega | (simp <;> omega))).trans (by first | (simp; done) | (simp [*]; done) | (simp [*, World.frozen?_alloc_at, World.frozen?_alloc_past, lt2, lt3, lt4]; done))
            have hya4 : w.heap.size + 1 < w4.heap.size := by omega
            have hyb4 : w.heap.size + 1 + 1 < w4.heap.size := by omega
            go_wp2
            have e1 : IntKind.i64.wrap (j + 1) = j + 1 := IntWalk.i64_in _ (by omega)
            have e2 : IntKind.i64.wrap (j' + 1) = j' + 1 := IntWalk.i64_in _ (by omega)
            have e3 : IntKind.i64.wrap ((j + 1) * (j' + 1)) = (j + 1) * (j' + 1) := wrap_prod (by omega) (by omega)
            have TX := Lib.hid (show Thr (w4.alloc (.cells #[.int .i64 sg, .int .i64 qn, .int .i64 qd] 70)) w.heap.size s l j from Thr.alloc ⟨kc4_0_0, kc4_1_0, kc4_2_0, hy4⟩ _)
            have TY := Lib.hid (show Thr (w4.alloc (.cells #[.int .i64 sg, .int .i64 qn, .int .i64 qd] 70)) (w.heap.size + 1) s l' j' from Thr.alloc ⟨kc4_0_1, kc4_1_1, kc4_2_1, hya4⟩ _)
            have TR := Lib.hid (show Two (w4.alloc (.cells #[.int .i64 sg, .int .i64 qn, .int .i64 qd] 70)) (w.heap.size + 1 + 1) 0 0 from Two.alloc ⟨kc4_0_2, kc4_1_2, kf4_0_2, kf4_1_2, hyb4⟩ _)
            have TQ := Lib.hid (show Thr (w4.alloc (.cells #[.int .i64 sg, .int .i64 qn, .int .i64 qd] 70)) w4.heap.size sg qn qd from ⟨by simp, by simp, by simp, by simp⟩)
            have B8 : Below w.heap.size w (w4.alloc (.cells #[.int .i64 sg, .int .i64 qn, .int .i64 qd] 70)) := B4.alloc B4.size _
            have hs8 : w.heap.size ≤ (w4.alloc (.cells #[.int .i64 sg, .int .i64 qn, .int .i64 qd] 70)).heap.size := B8.size
            generalize hW8 : w4.alloc (.cells #[.int .i64 sg, .int .i64 qn, .int .i64 qd] 70) = w8 at *
            obtain ⟨Q, hQ⟩ : ∃ Q, Q = w4.heap.size := ⟨_, rfl⟩
            rw [← hQ] at TQ ⊢
            have t0 := TX.out.2.2.1
            have t1 := TY.out.2.2.1
            have t2 := TQ.out.2.1
            have t3 := TQ.out.2.2.1
            have neX : w.heap.size + 1 + 1 ≠ w.heap.size := by omega
            have neY : w.heap.size + 1 + 1 ≠ w.heap.size + 1 := by omega
            have neQ : w.heap.size + 1 + 1 ≠ Q := by omega
            clear hc1 hf1 hz1 hy1 hya1 hyb1 B1 kc1_0_0 kc1_1_0 kc1_2_0 kc1_0_1 kc1_1_1 kc1_2_1 kc1_0_2 kc1_1_2 kf1_0_2 kf1_1_2 hc2 hf2 hz2 hy2 hya2 hyb2 B2 kc2_0_0 kc2_1_0 kc2_2_0 kc2_0_1 kc2_1_1 kc2_2_1 kc2_0_2 kc2_1_2 kf2_0_2 kf2_1_2 hc3 hf3 hz3 hy3 hya3 hyb3 B3 kc3_0_0 kc3_1_0 kc3_2_0 kc3_0_1 kc3_1_1 kc3_2_1 kc3_0_2 kc3_1_2 kf3_0_2 kf3_1_2 hc4 hf4 hz4 hy4 hya4 hyb4 B4 kc4_0_0 kc4_1_0 kc4_2_0 kc4_0_1 kc4_1_1 kc4_2_1 kc4_0_2 kc4_1_2 kf4_0_2 kf4_1_2 hQ hW8
            go_region_held3 (fun w' => w'.cell? ⟨w.heap.size, 2, none⟩ = some (.int .i64 j) ∧ w'.cell? ⟨w.heap.size + 1, 2, none⟩ = some (.int .i64 j') ∧ w'.cell? ⟨Q, 1, none⟩ = some (.int .i64 qn) ∧ w'.cell? ⟨Q, 2, none⟩ = some (.int .i64 qd))
              (first | exact ⟨t0, t1, t2, t3⟩ | (refine ⟨?_, ?_, ?_, ?_⟩ <;> (rw [World.cell?_setCell_far _ _ _ _ (by first | exact neX | exact neY | exact neQ), World.cell?_setCell_far _ _ _ _ (by first | exact neX | exact neY | exact neQ)]; assumption)) | go_keep)
              (first | ((with_reducible refine (HWH.out _).mono ?_); rintro e w9 ⟨rfl, b9'⟩; have b9 : Below w8.heap.size w8 w9 := ((Below.refl w8.heap.size w8).drew).trans b9'; clear b9'; have B9 := B8.trans (b9.mono hs8); have TX9 := Lib.hid (TX.out.below b9 TX.out.2.2.2); have TY9 := Lib.hid (TY.out.below b9 TY.out.2.2.2); have TQ9 := Lib.hid (TQ.out.below b9 TQ.out.2.2.2); have TR9 := Lib.hid (TR.out.below b9 TR.out.2.2.2.2); have t0 := TX9.out.2.2.1; have t1 := TY9.out.2.2.1; have t2 := TQ9.out.2.1; have t3 := TQ9.out.2.2.1; have rf0 := TR9.out.1; have rf1 := TR9.out.2.1; have rf2 := TR9.out.2.2.1; have rf3 := TR9.out.2.2.2.1; clear b9)
                     | ((with_reducible refine (HM.out _).mono ?_); rintro e w10 ⟨rfl, b10⟩; have B10 := B9.trans (b10.mono B9.size); have TX10 := Lib.hid (TX9.out.below b10 TX9.out.2.2.2); have TY10 := Lib.hid (TY9.out.below b10 TY9.out.2.2.2); have TQ10 := Lib.hid (TQ9.out.below b10 TQ9.out.2.2.2); have TR10 := Lib.hid (TR9.out.below b10 TR9.out.2.2.2.2); have t0 := TX10.out.2.2.1; have t1 := TY10.out.2.2.1; have t2 := TQ10.out.2.1; have t3 := TQ10.out.2.2.1; have rg0 := TR10.out.1; have rg1 := TR10.out.2.1; have rg2 := TR10.out.2.2.1; have rg3 := TR10.out.2.2.2.1; clear b10))
            all_goals go_wp2
            all_goals refine bodyPost_ret (v := .tuple #[.agg #[.int .i64 rn, .int .i64 rd], .bool rok]) (by simp [results, Try.results21, go_sem, *, lt2, lt3, lt4, lt5, lt6]) rfl ⟨rfl, (by repeat (first | (with_reducible refine Below.drew ?_) | (with_reducible refine below_drewN ?_ _) | (with_reducible refine Below.alloc ?_ ?_ _) | (with_reducible refine Below.setCell ?_ ?_ _) | (with_reducible assumption) | (with_reducible exact Below.refl _ _) | omega | (simp <;> omega)))⟩
      · have h3' : (s != s') = true := by simp [h3]
        have HR := Lib.hid (line_no3 l j l' j' h3)
        have HV := Lib.hid (fun W => iValid_is W h1)
        have HW := Lib.hid (fun W => iValid_is W h2)
        clear h1 h2 HS6
        go_enter Try.func21, Try.ntmps21
        go_wp2_with fail
        (with_reducible refine (HV.out _).mono ?_)
        rintro e w1 ⟨rfl, b1⟩
        have hz1 := b1.size
        obtain ⟨hc1, hf1⟩ := bcell b1
        have B1 : Below w.heap.size w w1 := Below.trans (by repeat (first | (with_reducible refine Below.drew ?_) | (with_reducible refine below_drewN ?_ _) | (with_reducible refine Below.alloc ?_ ?_ _) | (with_reducible refine Below.setCell ?_ ?_ _) | (with_reducible assumption) | (with_reducible exact Below.refl _ _) | omega | (simp <;> omega))) (b1.mono (by first | omega | (simp <;> omega)))
        (try simp at hz1)
        have hy1 : w.heap.size < w1.heap.size := by omega
        clear b1
        have kc1_0_0 : w1.cell? ⟨w.heap.size, 0, none⟩ = some (.int .i64 s) := (hc1 (w.heap.size) 0 (by first | omega | (simp <;> omega))).trans (by first | (simp; done) | (simp [*]; done) | (simp [*, World.cell?_alloc_at, World.cell?_alloc_past, World.cell?_alloc_lt, lt2, lt3, lt4]; done))
        have kc1_1_0 : w1.cell? ⟨w.heap.size, 1, none⟩ = some (.int .i64 l) := (hc1 (w.heap.size) 1 (by first | omega | (simp <;> omega))).trans (by first | (simp; done) | (simp [*]; done) | (simp [*, World.cell?_alloc_at, World.cell?_alloc_past, World.cell?_alloc_lt, lt2, lt3, lt4]; done))
        have kc1_2_0 : w1.cell? ⟨w.heap.size, 2, none⟩ = some (.int .i64 j) := (hc1 (w.heap.size) 2 (by first | omega | (simp <;> omega))).trans (by first | (simp; done) | (simp [*]; done) | (simp [*, World.cell?_alloc_at, World.cell?_alloc_past, World.cell?_alloc_lt, lt2, lt3, lt4]; done))
        have kc1_0_1 : w1.cell? ⟨w.heap.size + 1, 0, none⟩ = some (.int .i64 s') := (hc1 (w.heap.size + 1) 0 (by first | omega | (simp <;> omega))).trans (by first | (simp; done) | (simp [*]; done) | (simp [*, World.cell?_alloc_at, World.cell?_alloc_past, World.cell?_alloc_lt, lt2, lt3, lt4]; done))
        have kc1_1_1 : w1.cell? ⟨w.heap.size + 1, 1, none⟩ = some (.int .i64 l') := (hc1 (w.heap.size + 1) 1 (by first | omega | (simp <;> omega))).trans (by first | (simp; done) | (simp [*]; done) | (simp [*, World.cell?_alloc_at, World.cell?_alloc_past, World.cell?_alloc_lt, lt2, lt3, lt4]; done))
        have kc1_2_1 : w1.cell? ⟨w.heap.size + 1, 2, none⟩ = some (.int .i64 j') := (hc1 (w.heap.size + 1) 2 (by first | omega | (simp <;> omega))).trans (by first | (simp; done) | (simp [*]; done) | (simp [*, World.cell?_alloc_at, World.cell?_alloc_past, World.cell?_alloc_lt, lt2, lt3, lt4]; done))
        have kc1_0_2 : w1.cell? ⟨w.heap.size + 1 + 1, 0, none⟩ = some (.int .i64 0) := (hc1 (w.heap.size + 1 + 1) 0 (by first | omega | (simp <;> omega))).trans (by first | (simp; done) | (simp [*]; done) | (simp [*, World.cell?_alloc_at, World.cell?_alloc_past, World.cell?_alloc_lt, lt2, lt3, lt4]; done))
        have kc1_1_2 : w1.cell? ⟨w.heap.size + 1 + 1, 1, none⟩ = some (.int .i64 0) := (hc1 (w.heap.size + 1 + 1) 1 (by first | omega | (simp <;> omega))).trans (by first | (simp; done) | (simp [*]; done) | (simp [*, World.cell?_alloc_at, World.cell?_alloc_past, World.cell?_alloc_lt, lt2, lt3, lt4]; done))
        have kf1_0_2 : w1.frozen? ⟨w.heap.size + 1 + 1, 0, none⟩ = false := (hf1 (w.heap.size + 1 + 1) 0 (by first | omega | (simp <;> omega))).trans (by first | (simp; done) | (simp [*]; done) | (simp [*, World.frozen?_alloc_at, World.frozen?_alloc_past, lt2, lt3, lt4]; done))
        have kf1_1_2 : w1.frozen? ⟨w.heap.size + 1 + 1, 1, none⟩ = false := (hf1 (w.heap.size + 1 + 1) 1 (by first | omega | (simp <;> omega))).trans (by first | (simp; done) | (simp [*]; done) | (simp [*, World.frozen?_alloc_at, World.frozen?_alloc_past, lt2, lt3, lt4]; done))
        have hya1 : w.heap.size + 1 < w1.heap.size := by omega
        have hyb1 : w.heap.size + 1 + 1 < w1.heap.size := by omega
        go_wp2_with fail
        (with_reducible refine (HW.out _).mono ?_)
        rintro e w2 ⟨rfl, b2⟩
        have hz2 := b2.size
        obtain ⟨hc2, hf2⟩ := bcell b2
        have B2 : Below w.heap.size w w2 := Below.trans (by repeat (first | (with_reducible refine Below.drew ?_) | (with_reducible refine below_drewN ?_ _) | (with_reducible refine Below.alloc ?_ ?_ _) | (with_reducible refine Below.setCell ?_ ?_ _) | (with_reducible assumption) | (with_reducible exact Below.refl _ _) | omega | (simp <;> omega))) (b2.mono (by first | omega | (simp <;> omega)))
        (try simp at hz2)
        have hy2 : w.heap.size < w2.heap.size := by omega
        clear b2
        have kc2_0_0 : w2.cell? ⟨w.heap.size, 0, none⟩ = some (.int .i64 s) := (hc2 (w.heap.size) 0 (by first | omega | (simp <;> omega))).trans (by first | (simp; done) | (simp [*]; done) | (simp [*, World.cell?_alloc_at, World.cell?_alloc_past, World.cell?_alloc_lt, lt2, lt3, lt4]; done))
        have kc2_1_0 : w2.cell? ⟨w.heap.size, 1, none⟩ = some (.int .i64 l) := (hc2 (w.heap.size) 1 (by first | omega | (simp <;> omega))).trans (by first | (simp; done) | (simp [*]; done) | (simp [*, World.cell?_alloc_at, World.cell?_alloc_past, World.cell?_alloc_lt, lt2, lt3, lt4]; done))
        have kc2_2_0 : w2.cell? ⟨w.heap.size, 2, none⟩ = some (.int .i64 j) := (hc2 (w.heap.size) 2 (by first | omega | (simp <;> omega))).trans (by first | (simp; done) | (simp [*]; done) | (simp [*, World.cell?_alloc_at, World.cell?_alloc_past, World.cell?_alloc_lt, lt2, lt3, lt4]; done))
        have kc2_0_1 : w2.cell? ⟨w.heap.size + 1, 0, none⟩ = some (.int .i64 s') := (hc2 (w.heap.size + 1) 0 (by first | omega | (simp <;> omega))).trans (by first | (simp; done) | (simp [*]; done) | (simp [*, World.cell?_alloc_at, World.cell?_alloc_past, World.cell?_alloc_lt, lt2, lt3, lt4]; done))
        have kc2_1_1 : w2.cell? ⟨w.heap.size + 1, 1, none⟩ = some (.int .i64 l') := (hc2 (w.heap.size + 1) 1 (by first | omega | (simp <;> omega))).trans (by first | (simp; done) | (simp [*]; done) | (simp [*, World.cell?_alloc_at, World.cell?_alloc_past, World.cell?_alloc_lt, lt2, lt3, lt4]; done))
        have kc2_2_1 : w2.cell? ⟨w.heap.size + 1, 2, none⟩ = some (.int .i64 j') := (hc2 (w.heap.size + 1) 2 (by first | omega | (simp <;> omega))).trans (by first | (simp; done) | (simp [*]; done) | (simp [*, World.cell?_alloc_at, World.cell?_alloc_past, World.cell?_alloc_lt, lt2, lt3, lt4]; done))
        have kc2_0_2 : w2.cell? ⟨w.heap.size + 1 + 1, 0, none⟩ = some (.int .i64 0) := (hc2 (w.heap.size + 1 + 1) 0 (by first | omega | (simp <;> omega))).trans (by first | (simp; done) | (simp [*]; done) | (simp [*, World.cell?_alloc_at, World.cell?_alloc_past, World.cell?_alloc_lt, lt2, lt3, lt4]; done))
        have kc2_1_2 : w2.cell? ⟨w.heap.size + 1 + 1, 1, none⟩ = some (.int .i64 0) := (hc2 (w.heap.size + 1 + 1) 1 (by first | omega | (simp <;> omega))).trans (by first | (simp; done) | (simp [*]; done) | (simp [*, World.cell?_alloc_at, World.cell?_alloc_past, World.cell?_alloc_lt, lt2, lt3, lt4]; done))
        have kf2_0_2 : w2.frozen? ⟨w.heap.size + 1 + 1, 0, none⟩ = false := (hf2 (w.heap.size + 1 + 1) 0 (by first | omega | (simp <;> omega))).trans (by first | (simp; done) | (simp [*]; done) | (simp [*, World.frozen?_alloc_at, World.frozen?_alloc_past, lt2, lt3, lt4]; done))
        have kf2_1_2 : w2.frozen? ⟨w.heap.size + 1 + 1, 1, none⟩ = false := (hf2 (w.heap.size + 1 + 1) 1 (by first | omega | (simp <;> omega))).trans (by first | (simp; done) | (simp [*]; done) | (simp [*, World.frozen?_alloc_at, World.frozen?_alloc_past, lt2, lt3, lt4]; done))
        have hya2 : w.heap.size + 1 < w2.heap.size := by omega
        have hyb2 : w.heap.size + 1 + 1 < w2.heap.size := by omega
        go_wp2
        refine bodyPost_ret (v := .tuple #[.agg #[.int .i64 0, .int .i64 0], .bool false]) (by simp [results, Try.results21, go_sem, *, lt2, lt3, lt4, lt5, lt6]) rfl ⟨by rw [HR.out]; rfl, (by repeat (first | (with_reducible refine Below.drew ?_) | (with_reducible refine below_drewN ?_ _) | (with_reducible refine Below.alloc ?_ ?_ _) | (with_reducible refine Below.setCell ?_ ?_ _) | (with_reducible assumption) | (with_reducible exact Below.refl _ _) | omega | (simp <;> omega)))⟩

end Go.Proofs.Ythinhhfegflmmaa.LineI
