/-
  Roots of rationals: contracts of RootOf, the program's and the reference's.
-/
import Derived.Test.YtpollgibgphipaaDoorTwo
namespace Go.Proofs.YtpollgibgphipaaDoor.Root
open Go.RowKit Go.Proofs.YtpollgibgphipaaDoor.RatP Go.Proofs.YtpollgibgphipaaDoor.Rat Go.Proofs.YtpollgibgphipaaDoor.Spin Go.Proofs.YtpollgibgphipaaDoor.Row Go.Proofs.YtpollgibgphipaaDoor.Later Go.Proofs.YtpollgibgphipaaDoor.Two
set_option linter.unusedVariables false
set_option linter.unusedSimpArgs false

structure Rt where
  g : Int
  n : Int
  d : Int
  ok : Bool
def rtV (r : Rt) : Value := .tuple #[.agg #[.int .i64 r.g, .int .i64 r.n, .int .i64 r.d], .bool r.ok]
def rootR (n num den : Int) : Rt := if (mkR (n * n * num) den).ok = true then ⟨cmpI n 0, (mkR (n * n * num) den).n, (mkR (n * n * num) den).d, true⟩ else ⟨0, 0, 0, false⟩
theorem root_yes {n num den a b : Int} (h : mkR (n * n * num) den = ⟨a, b, true⟩) : rootR n num den = ⟨cmpI n 0, a, b, true⟩ := by unfold rootR; rw [h]; rfl
theorem root_no {n num den a b : Int} (h : mkR (n * n * num) den = ⟨a, b, false⟩) : rootR n num den = ⟨0, 0, 0, false⟩ := by unfold rootR; rw [h]; rfl
theorem sq_bd {n : Int} (h : -1000000 ≤ n ∧ n ≤ 1000000) : 0 ≤ n * n ∧ n * n ≤ 1000000000000 := by
  have h1 := mul_bd2 (a := n) (c := n) (by omega) (by omega) (by omega) (by omega)
  have e : n * n = (n.natAbs * n.natAbs : Nat) := by rw [Int.natAbs_mul_self]
  have h2 : n.natAbs * n.natAbs ≤ 1000000 * 1000000 := Nat.mul_le_mul (by omega) (by omega)
  omega
theorem sq_num {n num : Int} (h : -1000000 ≤ n ∧ n ≤ 1000000) (hm : 1 ≤ num ∧ num ≤ 1000000) : 0 ≤ n * n * num ∧ n * n * num ≤ 1000000000000000000 := by
  have h1 := sq_bd h
  have h2 := Int.mul_nonneg h1.1 (show 0 ≤ num by omega)
  have h3 := Int.mul_le_mul h1.2 hm.2 (by omega) (by omega)
  omega
theorem sq_quo {n num : Int} (h : -1000000 ≤ n ∧ n ≤ 1000000) (h0 : ¬ n = 0) (hm : num ≤ 1000000) : 1 ≤ n * n ∧ num ≤ 4000000000000000000 / (n * n) := by
  have h1 := sq_bd h
  have h2 : n * n ≠ 0 := fun e => by rcases Int.mul_eq_zero.1 e with e | e <;> exact h0 e
  refine ⟨by omega, ?_⟩
  have h3 : (4000000 : Int) ≤ 4000000000000000000 / (n * n) := by
    rw [Int.le_ediv_iff_mul_le (by omega)]
    omega
  omega


set_option maxRecDepth 100000 in
set_option maxHeartbeats 2000000 in
theorem iRootOf (n num den : Int) (w : World) (hn : -1000000 ≤ n ∧ n ≤ 1000000) (hm : 1 ≤ num ∧ num ≤ 1000000) (hd : 1 ≤ den ∧ den ≤ 4000000000000000000) :
    Calls Tryd.prog 52 #[.int .i64 n, .int .i64 num, .int .i64 den] w (Gives (rtV (rootR n num den)) w) := by
  obtain ⟨s1, s2⟩ := sq_bd hn
  obtain ⟨p1, p2⟩ := sq_num hn hm
  have hq := sq_quo (n := n) (num := num) hn
  have HM := Lib.hid (fun W => iRatOf (n * n * num) den W ⟨by omega, by omega⟩ hd)
  have hyes := @root_yes n num den
  have hno := @root_no n num den
  obtain ⟨hn1, hn2⟩ := hn
  obtain ⟨hm1, hm2⟩ := hm
  obtain ⟨hd1, hd2⟩ := hd
  have e1 : decide (n < -1000000000) = false := decide_eq_false (by omega)
  have e2 : decide (1000000000 < n) = false := decide_eq_false (by omega)
  have e3 : decide (num < 1) = false := decide_eq_false (by omega)
  have e4 : decide (4000000000000000000 < num) = false := decide_eq_false (by omega)
  have e5 : decide (den < 1) = false := decide_eq_false (by omega)
  have e6 : decide (4000000000000000000 < den) = false := decide_eq_false (by omega)
  unfold roV at HM
  unfold rtV
  generalize mkR (n * n * num) den = r at *
  obtain ⟨rn, rd, rok⟩ := r
  have HC := Lib.hid (fun W => cmpCompare n 0 W)
  generalize hs : cmpI n 0 = sg at *
  clear hs
  have hz : (n = 0 ∧ (n != 0) = false) ∨ ((n != 0) = true ∧ ¬ n = 0) := by
    by_cases h : n = 0
    · exact .inl ⟨h, by simp [h]⟩
    · exact .inr ⟨by simp [h], h⟩
  have hz' : (n != 0) = false ∨ ((n != 0) = true ∧ 1 ≤ n * n ∧ decide (4000000000000000000 / (n * n) < num) = false ∧ ¬ n * n = 0 ∧ ¬ n * n = -1) := by
    rcases hz with ⟨h, h'⟩ | ⟨h, h'⟩
    · exact .inl h'
    · have q := hq h' hm2
      exact .inr ⟨h, q.1, decide_eq_false (by omega), by omega, by omega⟩
  clear hq hz
  cases rok
  · have HR := Lib.hid (hno rfl)
    clear hyes hno
    rcases hz' with h0 | ⟨h0, h1, h2, h3, h4⟩
    all_goals
      go_enter Tryd.func52, Tryd.ntmps52
      go_wp2_with fail
      (with_reducible refine (HM.out _).mono ?_)
      rintro e w1 ⟨rfl, b1⟩
      have hz1 := b1.size
      obtain ⟨hc1, hf1⟩ := bcell b1
      have B1 : Below w.heap.size w w1 := Below.trans (by repeat (first | (with_reducible refine Below.drew ?_) | (with_reducible refine below_drewN ?_ _) | (with_reducible refine Below.alloc ?_ ?_ _) | (with_reducible refine Below.setCell ?_ ?_ _) | (with_reducible assumption) | (with_reducible exact Below.refl _ _) | omega | (simp <;> omega))) (b1.mono (by first | omega | (simp <;> omega)))
      (try simp at hz1)
      have hy1 : w.heap.size < w1.heap.size := by omega
      clear b1
      have kc1_0_0 : w1.cell? ⟨w.heap.size, 0, none⟩ = some (.int .i64 0) := (hc1 (w.heap.size) 0 (by first | omega | (simp <;> omega))).trans (by first | (simp; done) | (simp [*]; done) | (simp [*, World.cell?_alloc_at, World.cell?_alloc_past, World.cell?_alloc_lt, lt2, lt3, lt4]; done))
      have kc1_1_0 : w1.cell? ⟨w.heap.size, 1, none⟩ = some (.int .i64 0) := (hc1 (w.heap.size) 1 (by first | omega | (simp <;> omega))).trans (by first | (simp; done) | (simp [*]; done) | (simp [*, World.cell?_alloc_at, World.cell?_alloc_past, World.cell?_alloc_lt, lt2, lt3, lt4]; done))
      have kc1_2_0 : w1.cell? ⟨w.heap.size, 2, none⟩ = some (.int .i64 0) := (hc1 (w.heap.size) 2 (by first | omega | (simp <;> omega))).trans (by first | (simp; done) | (simp [*]; done) | (simp [*, World.cell?_alloc_at, World.cell?_alloc_past, World.cell?_alloc_lt, lt2, lt3, lt4]; done))
      have kf1_0_0 : w1.frozen? ⟨w.heap.size, 0, none⟩ = false := (hf1 (w.heap.size) 0 (by first | omega | (simp <;> omega))).trans (by first | (simp; done) | (simp [*]; done) | (simp [*, World.frozen?_alloc_at, World.frozen?_alloc_past, lt2, lt3, lt4]; done))
      have kf1_1_0 : w1.frozen? ⟨w.heap.size, 1, none⟩ = false := (hf1 (w.heap.size) 1 (by first | omega | (simp <;> omega))).trans (by first | (simp; done) | (simp [*]; done) | (simp [*, World.frozen?_alloc_at, World.frozen?_alloc_past, lt2, lt3, lt4]; done))
      have kf1_2_0 : w1.frozen? ⟨w.heap.size, 2, none⟩ = false := (hf1 (w.heap.size) 2 (by first | omega | (simp <;> omega))).trans (by first | (simp; done) | (simp [*]; done) | (simp [*, World.frozen?_alloc_at, World.frozen?_alloc_past, lt2, lt3, lt4]; done))
      go_wp2
      refine bodyPost_ret (v := .tuple #[.agg #[.int .i64 0, .int .i64 0, .int .i64 0], .bool false]) (by simp [results, Tryd.results52, go_sem, *, lt2, lt3, lt4, lt5, lt6]) rfl ⟨by rw [HR.out], (by repeat (first | (with_reducible refine Below.drew ?_) | (with_reducible refine below_drewN ?_ _) | (with_reducible refine Below.alloc ?_ ?_ _) | (with_reducible refine Below.setCell ?_ ?_ _) | (with_reducible assumption) | (with_reducible exact Below.refl _ _) | omega | (simp <;> omega)))⟩
  · have HR := Lib.hid (hyes rfl)
    clear hyes hno
    rcases hz' with h0 | ⟨h0, h1, h2, h3, h4⟩
    all_goals
      go_enter Tryd.func52, Tryd.ntmps52
      go_wp2_with fail
      (with_reducible refine (HM.out _).mono ?_)
      rintro e w1 ⟨rfl, b1⟩
      have hz1 := b1.size
      obtain ⟨hc1, hf1⟩ := bcell b1
      have B1 : Below w.heap.size w w1 := Below.trans (by repeat (first | (with_reducible refine Below.drew ?_) | (with_reducible refine below_drewN ?_ _) | (with_reducible refine Below.alloc ?_ ?_ _) | (with_reducible refine Below.setCell ?_ ?_ _) | (with_reducible assumption) | (with_reducible exact Below.refl _ _) | omega | (simp <;> omega))) (b1.mono (by first | omega | (simp <;> omega)))
      (try simp at hz1)
      have hy1 : w.heap.size < w1.heap.size := by omega
      clear b1
      have kc1_0_0 : w1.cell? ⟨w.heap.size, 0, none⟩ = some (.int .i64 0) := (hc1 (w.heap.size) 0 (by first | omega | (simp <;> omega))).trans (by first | (simp; done) | (simp [*]; done) | (simp [*, World.cell?_alloc_at, World.cell?_alloc_past, World.cell?_alloc_lt, lt2, lt3, lt4]; done))
      have kc1_1_0 : w1.cell? ⟨w.heap.size, 1, none⟩ = some (.int .i64 0) := (hc1 (w.heap.size) 1 (by first | omega | (simp <;> omega))).trans (by first | (simp; done) | (simp [*]; done) | (simp [*, World.cell?_alloc_at, World.cell?_alloc_past, World.cell?_alloc_lt, lt2, lt3, lt4]; done))
      have kc1_2_0 : w1.cell? ⟨w.heap.size, 2, none⟩ = some (.int .i64 0) := (hc1 (w.heap.size) 2 (by first | omega | (simp <;> omega))).trans (by first | (simp; done) | (simp [*]; done) | (simp [*, World.cell?_alloc_at, World.cell?_alloc_past, World.cell?_alloc_lt, lt2, lt3, lt4]; done))
      have kf1_0_0 : w1.frozen? ⟨w.heap.size, 0, none⟩ = false := (hf1 (w.heap.size) 0 (by first | omega | (simp <;> omega))).trans (by first | (simp; done) | (simp [*]; done) | (simp [*, World.frozen?_alloc_at, World.frozen?_alloc_past, lt2, lt3, lt4]; done))
      have kf1_1_0 : w1.frozen? ⟨w.heap.size, 1, none⟩ = false := (hf1 (w.heap.size) 1 (by first | omega | (simp <;> omega))).trans (by first | (simp; done) | (simp [*]; done) | (simp [*, World.frozen?_alloc_at, World.frozen?_alloc_past, lt2, lt3, lt4]; done))
      have kf1_2_0 : w1.frozen? ⟨w.heap.size, 2, none⟩ = false := (hf1 (w.heap.size) 2 (by first | omega | (simp <;> omega))).trans (by first | (simp; done) | (simp [*]; done) | (simp [*, World.frozen?_alloc_at, World.frozen?_alloc_past, lt2, lt3, lt4]; done))
      go_wp2
      have A1 : Below w.heap.size w (w1.alloc (.cells #[.int .i64 rn, .int .i64 rd] 34)).drew := (by repeat (first | (with_reducible refine Below.drew ?_) | (with_reducible refine below_drewN ?_ _) | (with_reducible refine Below.alloc ?_ ?_ _) | (with_reducible refine Below.setCell ?_ ?_ _) | (with_reducible assumption) | (with_reducible exact Below.refl _ _) | omega | (simp <;> omega)))
      refine wp_region_tail 4 (by kernel_rfl) (by kernel_rfl) ?_
      intro w2 hw2
      have TT : Two w2 w1.heap.size rn rd := by rw [hw2]; exact (Two.new _ _ _ _).drew
      have c0 : w2.cell? ⟨w.heap.size, 0, none⟩ = some (.int .i64 0) := by rw [hw2]; exact (World.cell?_alloc_lt _ _ _ hy1).trans kc1_0_0
      have c1 : w2.cell? ⟨w.heap.size, 1, none⟩ = some (.int .i64 0) := by rw [hw2]; exact (World.cell?_alloc_lt _ _ _ hy1).trans kc1_1_0
      have c2 : w2.cell? ⟨w.heap.size, 2, none⟩ = some (.int .i64 0) := by rw [hw2]; exact (World.cell?_alloc_lt _ _ _ hy1).trans kc1_2_0
      have f0 : w2.frozen? ⟨w.heap.size, 0, none⟩ = false := by rw [hw2]; exact (World.frozen?_alloc_past _ _ _ hy1).trans kf1_0_0
      have f1 : w2.frozen? ⟨w.heap.size, 1, none⟩ = false := by rw [hw2]; exact (World.frozen?_alloc_past _ _ _ hy1).trans kf1_1_0
      have f2 : w2.frozen? ⟨w.heap.size, 2, none⟩ = false := by rw [hw2]; exact (World.frozen?_alloc_past _ _ _ hy1).trans kf1_2_0
      rw [← hw2] at A1
      clear hw2 hc1 hf1 kc1_0_0 kc1_1_0 kc1_2_0 kf1_0_0 kf1_1_0 kf1_2_0
      obtain ⟨t0, t1, _, _, _⟩ := TT
      simp only [List.take_succ_cons, List.take_zero, List.drop_succ_cons, List.drop_zero]
      repeat (first | still_step | still_call ((HC.out _).mono fun _ _ h => ⟨h.1, h.2.symm⟩))
      refine wpStill_nil ?_
      go_wp2
      refine bodyPost_ret (v := .tuple #[.agg #[.int .i64 sg, .int .i64 rn, .int .i64 rd], .bool true]) (by simp [results, Tryd.results52, go_sem, *, lt2, lt3, lt4, lt5, lt6]) rfl ⟨by rw [HR.out], (by repeat (first | (with_reducible refine Below.drew ?_) | (with_reducible refine below_drewN ?_ _) | (with_reducible refine Below.alloc ?_ ?_ _) | (with_reducible refine Below.setCell ?_ ?_ _) | (with_reducible assumption) | (with_reducible exact Below.refl _ _) | omega | (simp <;> omega)))⟩


theorem sSign (n : Int) (w : World) : Calls Tryd.prog 84 #[.int .i64 n] w fun e w' => e = .returned (.int .i64 (cmpI n 0)) ∧ w = w' := by
  have h : n < 0 ∨ (¬ n < 0 ∧ 0 < n) ∨ (¬ n < 0 ∧ ¬ 0 < n) := by omega
  unfold cmpI
  rcases h with h | ⟨h, h'⟩ | ⟨h, h'⟩
  all_goals
    go_enter Tryd.func84, Tryd.ntmps84
    go_wp2
    go_ret
    exact ⟨ret_int (by simp [*]), rfl⟩


set_option maxRecDepth 100000 in
set_option maxHeartbeats 2000000 in
theorem sRootOf (n num den : Int) (w : World) (hn : -1000000 ≤ n ∧ n ≤ 1000000) (hm : 1 ≤ num ∧ num ≤ 1000000) (hd : 1 ≤ den ∧ den ≤ 4000000000000000000) :
    Calls Tryd.prog 75 #[.int .i64 n, .int .i64 num, .int .i64 den] w (Gives (rtV (rootR n num den)) w) := by
  obtain ⟨s1, s2⟩ := sq_bd hn
  obtain ⟨p1, p2⟩ := sq_num hn hm
  have hq := sq_quo (n := n) (num := num) hn
  have HM := Lib.hid (fun W => sRatOf (n * n * num) den W ⟨by omega, by omega⟩ hd)
  have hyes := @root_yes n num den
  have hno := @root_no n num den
  obtain ⟨hn1, hn2⟩ := hn
  obtain ⟨hm1, hm2⟩ := hm
  obtain ⟨hd1, hd2⟩ := hd
  have HI1 := Lib.hid (fun W => l6In n (-1000000000) 1000000000 W)
  rw [inB_true.2 ⟨by omega, by omega⟩] at HI1
  have HI2 := Lib.hid (fun W => l6In num 1 4000000000000000000 W)
  rw [inB_true.2 ⟨by omega, by omega⟩] at HI2
  have HI3 := Lib.hid (fun W => l6In den 1 4000000000000000000 W)
  rw [inB_true.2 ⟨by omega, by omega⟩] at HI3
  unfold roV at HM
  unfold rtV
  generalize mkR (n * n * num) den = r at *
  obtain ⟨rn, rd, rok⟩ := r
  have HC := Lib.hid (fun W => sSign n W)
  generalize hs : cmpI n 0 = sg at *
  clear hs
  have hz : (n = 0 ∧ (n != 0) = false) ∨ ((n != 0) = true ∧ ¬ n = 0) := by
    by_cases h : n = 0
    · exact .inl ⟨h, by simp [h]⟩
    · exact .inr ⟨by simp [h], h⟩
  have hz' : (n != 0) = false ∨ ((n != 0) = true ∧ 1 ≤ n * n ∧ decide (4000000000000000000 / (n * n) < num) = false ∧ ¬ n * n = 0 ∧ ¬ n * n = -1) := by
    rcases hz with ⟨h, h'⟩ | ⟨h, h'⟩
    · exact .inl h'
    · have q := hq h' hm2
      exact .inr ⟨h, q.1, decide_eq_false (by omega), by omega, by omega⟩
  clear hq hz
  cases rok
  · have HR := Lib.hid (hno rfl)
    clear hyes hno
    rcases hz' with h0 | ⟨h0, h1, h2, h3, h4⟩
    all_goals
      go_enter Tryd.func75, Tryd.ntmps75
      go_wp2_with fail
      (with_reducible refine (HI1.out _).mono ?_)
      rintro e w' ⟨rfl, rfl⟩
      go_wp2_with fail
      (with_reducible refine (HI2.out _).mono ?_)
      rintro e w' ⟨rfl, rfl⟩
      go_wp2_with fail
      (with_reducible refine (HI3.out _).mono ?_)
      rintro e w' ⟨rfl, rfl⟩
      go_wp2_with fail
      (with_reducible refine (HM.out _).mono ?_)
      rintro e w1 ⟨rfl, b1⟩
      have hz1 := b1.size
      obtain ⟨hc1, hf1⟩ := bcell b1
      have B1 : Below w.heap.size w w1 := Below.trans (by repeat (first | (with_reducible refine Below.drew ?_) | (with_reducible refine below_drewN ?_ _) | (with_reducible refine Below.alloc ?_ ?_ _) | (with_reducible refine Below.setCell ?_ ?_ _) | (with_reducible assumption) | (with_reducible exact Below.refl _ _) | omega | (simp <;> omega))) (b1.mono (by first | omega | (simp <;> omega)))
      (try simp at hz1)
      have hy1 : w.heap.size < w1.heap.size := by omega
      clear b1
      have kc1_0_0 : w1.cell? ⟨w.heap.size, 0, none⟩ = some (.int .i64 0) := (hc1 (w.heap.size) 0 (by first | omega | (simp <;> omega))).trans (by first | (simp; done) | (simp [*]; done) | (simp [*, World.cell?_alloc_at, World.cell?_alloc_past, World.cell?_alloc_lt, lt2, lt3, lt4]; done))
      have kc1_1_0 : w1.cell? ⟨w.heap.size, 1, none⟩ = some (.int .i64 0) := (hc1 (w.heap.size) 1 (by first | omega | (simp <;> omega))).trans (by first | (simp; done) | (simp [*]; done) | (simp [*, World.cell?_alloc_at, World.cell?_alloc_past, World.cell?_alloc_lt, lt2, lt3, lt4]; done))
      have kc1_2_0 : w1.cell? ⟨w.heap.size, 2, none⟩ = some (.int .i64 0) := (hc1 (w.heap.size) 2 (by first | omega | (simp <;> omega))).trans (by first | (simp; done) | (simp [*]; done) | (simp [*, World.cell?_alloc_at, World.cell?_alloc_past, World.cell?_alloc_lt, lt2, lt3, lt4]; done))
      have kf1_0_0 : w1.frozen? ⟨w.heap.size, 0, none⟩ = false := (hf1 (w.heap.size) 0 (by first | omega | (simp <;> omega))).trans (by first | (simp; done) | (simp [*]; done) | (simp [*, World.frozen?_alloc_at, World.frozen?_alloc_past, lt2, lt3, lt4]; done))
      have kf1_1_0 : w1.frozen? ⟨w.heap.size, 1, none⟩ = false := (hf1 (w.heap.size) 1 (by first | omega | (simp <;> omega))).trans (by first | (simp; done) | (simp [*]; done) | (simp [*, World.frozen?_alloc_at, World.frozen?_alloc_past, lt2, lt3, lt4]; done))
      have kf1_2_0 : w1.frozen? ⟨w.heap.size, 2, none⟩ = false := (hf1 (w.heap.size) 2 (by first | omega | (simp <;> omega))).trans (by first | (simp; done) | (simp [*]; done) | (simp [*, World.frozen?_alloc_at, World.frozen?_alloc_past, lt2, lt3, lt4]; done))
      go_wp2
      refine bodyPost_ret (v := .tuple #[.agg #[.int .i64 0, .int .i64 0, .int .i64 0], .bool false]) (by simp [results, Tryd.results75, go_sem, *, lt2, lt3, lt4, lt5, lt6]) rfl ⟨by rw [HR.out], (by repeat (first | (with_reducible refine Below.drew ?_) | (with_reducible refine below_drewN ?_ _) | (with_reducible refine Below.alloc ?_ ?_ _) | (with_reducible refine Below.setCell ?_ ?_ _) | (with_reducible assumption) | (with_reducible exact Below.refl _ _) | omega | (simp <;> omega)))⟩
  · have HR := Lib.hid (hyes rfl)
    clear hyes hno
    rcases hz' with h0 | ⟨h0, h1, h2, h3, h4⟩
    all_goals
      go_enter Tryd.func75, Tryd.ntmps75
      go_wp2_with fail
      (with_reducible refine (HI1.out _).mono ?_)
      rintro e w' ⟨rfl, rfl⟩
      go_wp2_with fail
      (with_reducible refine (HI2.out _).mono ?_)
      rintro e w' ⟨rfl, rfl⟩
      go_wp2_with fail
      (with_reducible refine (HI3.out _).mono ?_)
      rintro e w' ⟨rfl, rfl⟩
      go_wp2_with fail
      (with_reducible refine (HM.out _).mono ?_)
      rintro e w1 ⟨rfl, b1⟩
      have hz1 := b1.size
      obtain ⟨hc1, hf1⟩ := bcell b1
      have B1 : Below w.heap.size w w1 := Below.trans (by repeat (first | (with_reducible refine Below.drew ?_) | (with_reducible refine below_drewN ?_ _) | (with_reducible refine Below.alloc ?_ ?_ _) | (with_reducible refine Below.setCell ?_ ?_ _) | (with_reducible assumption) | (with_reducible exact Below.refl _ _) | omega | (simp <;> omega))) (b1.mono (by first | omega | (simp <;> omega)))
      (try simp at hz1)
      have hy1 : w.heap.size < w1.heap.size := by omega
      clear b1
      have kc1_0_0 : w1.cell? ⟨w.heap.size, 0, none⟩ = some (.int .i64 0) := (hc1 (w.heap.size) 0 (by first | omega | (simp <;> omega))).trans (by first | (simp; done) | (simp [*]; done) | (simp [*, World.cell?_alloc_at, World.cell?_alloc_past, World.cell?_alloc_lt, lt2, lt3, lt4]; done))
      have kc1_1_0 : w1.cell? ⟨w.heap.size, 1, none⟩ = some (.int .i64 0) := (hc1 (w.heap.size) 1 (by first | omega | (simp <;> omega))).trans (by first | (simp; done) | (simp [*]; done) | (simp [*, World.cell?_alloc_at, World.cell?_alloc_past, World.cell?_alloc_lt, lt2, lt3, lt4]; done))
      have kc1_2_0 : w1.cell? ⟨w.heap.size, 2, none⟩ = some (.int .i64 0) := (hc1 (w.heap.size) 2 (by first | omega | (simp <;> omega))).trans (by first | (simp; done) | (simp [*]; done) | (simp [*, World.cell?_alloc_at, World.cell?_alloc_past, World.cell?_alloc_lt, lt2, lt3, lt4]; done))
      have kf1_0_0 : w1.frozen? ⟨w.heap.size, 0, none⟩ = false := (hf1 (w.heap.size) 0 (by first | omega | (simp <;> omega))).trans (by first | (simp; done) | (simp [*]; done) | (simp [*, World.frozen?_alloc_at, World.frozen?_alloc_past, lt2, lt3, lt4]; done))
      have kf1_1_0 : w1.frozen? ⟨w.heap.size, 1, none⟩ = false := (hf1 (w.heap.size) 1 (by first | omega | (simp <;> omega))).trans (by first | (simp; done) | (simp [*]; done) | (simp [*, World.frozen?_alloc_at, World.frozen?_alloc_past, lt2, lt3, lt4]; done))
      have kf1_2_0 : w1.frozen? ⟨w.heap.size, 2, none⟩ = false := (hf1 (w.heap.size) 2 (by first | omega | (simp <;> omega))).trans (by first | (simp; done) | (simp [*]; done) | (simp [*, World.frozen?_alloc_at, World.frozen?_alloc_past, lt2, lt3, lt4]; done))
      go_wp2
      have A1 : Below w.heap.size w (w1.alloc (.cells #[.int .i64 rn, .int .i64 rd] 34)).drew := (by repeat (first | (with_reducible refine Below.drew ?_) | (with_reducible refine below_drewN ?_ _) | (with_reducible refine Below.alloc ?_ ?_ _) | (with_reducible refine Below.setCell ?_ ?_ _) | (with_reducible assumption) | (with_reducible exact Below.refl _ _) | omega | (simp <;> omega)))
      refine wp_region_tail 4 (by kernel_rfl) (by kernel_rfl) ?_
      intro w2 hw2
      have TT : Two w2 w1.heap.size rn rd := by rw [hw2]; exact (Two.new _ _ _ _).drew
      have c0 : w2.cell? ⟨w.heap.size, 0, none⟩ = some (.int .i64 0) := by rw [hw2]; exact (World.cell?_alloc_lt _ _ _ hy1).trans kc1_0_0
      have c1 : w2.cell? ⟨w.heap.size, 1, none⟩ = some (.int .i64 0) := by rw [hw2]; exact (World.cell?_alloc_lt _ _ _ hy1).trans kc1_1_0
      have c2 : w2.cell? ⟨w.heap.size, 2, none⟩ = some (.int .i64 0) := by rw [hw2]; exact (World.cell?_alloc_lt _ _ _ hy1).trans kc1_2_0
      have f0 : w2.frozen? ⟨w.heap.size, 0, none⟩ = false := by rw [hw2]; exact (World.frozen?_alloc_past _ _ _ hy1).trans kf1_0_0
      have f1 : w2.frozen? ⟨w.heap.size, 1, none⟩ = false := by rw [hw2]; exact (World.frozen?_alloc_past _ _ _ hy1).trans kf1_1_0
      have f2 : w2.frozen? ⟨w.heap.size, 2, none⟩ = false := by rw [hw2]; exact (World.frozen?_alloc_past _ _ _ hy1).trans kf1_2_0
      rw [← hw2] at A1
      clear hw2 hc1 hf1 kc1_0_0 kc1_1_0 kc1_2_0 kf1_0_0 kf1_1_0 kf1_2_0
      obtain ⟨t0, t1, _, _, _⟩ := TT
      simp only [List.take_succ_cons, List.take_zero, List.drop_succ_cons, List.drop_zero]
      repeat (first | still_step | still_call ((HC.out _).mono fun _ _ h => ⟨h.1, h.2.symm⟩))
      refine wpStill_nil ?_
      go_wp2
      refine bodyPost_ret (v := .tuple #[.agg #[.int .i64 sg, .int .i64 rn, .int .i64 rd], .bool true]) (by simp [results, Tryd.results75, go_sem, *, lt2, lt3, lt4, lt5, lt6]) rfl ⟨by rw [HR.out], (by repeat (first | (with_reducible refine Below.drew ?_) | (with_reducible refine below_drewN ?_ _) | (with_reducible refine Below.alloc ?_ ?_ _) | (with_reducible refine Below.setCell ?_ ?_ _) | (with_reducible assumption) | (with_reducible exact Below.refl _ _) | omega | (simp <;> omega)))⟩


end Go.Proofs.YtpollgibgphipaaDoor.Root
