/-
  SixJ: the reference's.
-/
import Derived.Test.YthinhhfegflmmaaSixS
namespace Go.Proofs.Ythinhhfegflmmaa.SixS
open Go.RowKit Go.Proofs.Ythinhhfegflmmaa.RatP Go.Proofs.Ythinhhfegflmmaa.Rat Go.Proofs.Ythinhhfegflmmaa.ChoP Go.Proofs.Ythinhhfegflmmaa.StrP Go.Proofs.Ythinhhfegflmmaa.Spin Go.Proofs.Ythinhhfegflmmaa.Row Go.Proofs.Ythinhhfegflmmaa.Later Go.Proofs.Ythinhhfegflmmaa.Fact Go.Proofs.Ythinhhfegflmmaa.Delta Go.Proofs.Ythinhhfegflmmaa.Ways Go.Proofs.Ythinhhfegflmmaa.Root Go.Proofs.Ythinhhfegflmmaa.Two
set_option linter.unusedVariables false
set_option linter.unusedSimpArgs false

theorem six_facts {a b c d e : Int} (hd : Dom a b c d e) : sumI a b c d e 2 = sumS a b c d e 2 ∧ den6 a b c d e 2 = denS a b c d e 2 ∧ (-1000000 ≤ sumI a b c d e 2 ∧ sumI a b c d e 2 ≤ 1000000) ∧ 1 ≤ den6 a b c d e 2 ∧ den6 a b c d e 2 ≤ 4000000000000000000 := of_decide_eq_true (every6_at six_eq hd)

set_option maxRecDepth 100000 in
set_option maxHeartbeats 4000000 in
theorem sSixJ (a b c d e : Int) (w : World) (hd : Dom a b c d e) : Calls Try.prog 58 #[.int .i64 a, .int .i64 b, .int .i64 c, .int .i64 d, .int .i64 e, .int .i64 2] w (Gives (rtV (rootR (sumS a b c d e 2) 1 (denS a b c d e 2))) w) := by
  obtain ⟨k1, k2, k3, k4⟩ := six_small hd.2.2.2.2.2
  obtain ⟨⟨a0, a1⟩, ⟨b0, b1⟩, ⟨c0, c1⟩, -⟩ := triOk_parts k1
  obtain ⟨-, ⟨e0, e1⟩, -, -⟩ := triOk_parts k2
  obtain ⟨⟨d0, d1⟩, -⟩ := triOk_parts k3
  obtain ⟨q1, q2, q3, q4, -, -, -, -, q5, q6, q7, -⟩ := of_decide_eq_true (every6_at den_bds hd)
  obtain ⟨g1, g2, g3, g4, g5⟩ := six_facts hd
  have HK := Lib.hid (fun W => sOk6_is W ⟨a0, a1⟩ ⟨b0, b1⟩ ⟨c0, c1⟩ ⟨d0, d1⟩ ⟨e0, e1⟩ (f := 2) (by omega) hd.2.2.2.2.2)
  have HD1 := Lib.hid (fun W => sDelta a b c W k1)
  have HD2 := Lib.hid (fun W => sDelta a e 2 W k2)
  have HD3 := Lib.hid (fun W => sDelta d b 2 W k3)
  have HD4 := Lib.hid (fun W => sDelta d e c W k4)
  have HSS := Lib.hid (fun W => sSixSum a b c d e W hd)
  have HR := Lib.hid (fun W => sRootOf (sumS a b c d e 2) 1 (denS a b c d e 2) W (by rw [← g1]; exact g3) (by omega) q7)
  have hden : deltaS a b c * deltaS a e 2 * deltaS d b 2 * deltaS d e c = denS a b c d e 2 := rfl
  rw [← hden] at HR q7 ⊢
  clear k1 k2 k3 k4 hd g1 g2 g3 g4 g5 hden
  unfold rtV at HR ⊢
  generalize deltaS a b c = D1 at *
  generalize deltaS a e 2 = D2 at *
  generalize deltaS d b 2 = D3 at *
  generalize deltaS d e c = D4 at *
  generalize sumS a b c d e 2 = S at *
  generalize rootR S 1 (D1 * D2 * D3 * D4) = r at *
  obtain ⟨rg, rn, rd, rok⟩ := r
  obtain ⟨q1a, q1b⟩ := q1
  obtain ⟨q2a, q2b⟩ := q2
  obtain ⟨q3a, q3b⟩ := q3
  obtain ⟨q4a, q4b⟩ := q4
  obtain ⟨q5a, q5b⟩ := q5
  obtain ⟨q6a, q6b⟩ := q6
  obtain ⟨q7a, q7b⟩ := q7
  go_enter Try.func58, Try.ntmps58
  go_wp2_with fail
  (with_reducible refine (HK.out _).mono ?_)
  rintro e w1 ⟨rfl, b1⟩
  have hz1 := b1.size
  obtain ⟨hc1, hf1⟩ := bcell b1
  have B1 : Below w.heap.size w w1 := Below.trans (by repeat (first | (with_reducible refine Below.drew ?_) | (with_reducible refine below_drewN ?_ _) | (with_reducible refine Below.alloc ?_ ?_ _) | (with_reducible refine Below.setCell ?_ ?_ _) | (with_reducible assumption) | (with_reducible exact Below.refl _ _) | omega | (simp <;> omega))) (b1.mono (by first | omega | (simp <;> omega)))
  (try simp at hz1)
  have hy1 : w.heap.size < w1.heap.size := by omega
  clear b1
  have kc1_0_0 : w1.cell? ⟨w.heap.size, 0, none⟩ = some (.int .i64 0) := (hc1 (w.heap.size) 0 (by first | omega | (simp <;> omega))).trans (by first | (simp; done) | (simp [*]; done) | (simp [*, World.cell?_alloc_at, World.cell?_alloc_past, World.cell?_alloc_lt, lt2, lt3, lt4]; done))
  have kc1_1_0 : w1.cell? ⟨w.heap.size, 1, none⟩ = some (.int .i64 0) := (hc1 (w.heap.size) 1 (by first | omega | (simp <;> omega))).trans (by first | (simp; done) | (simp [*]; done) | (simp [*, World.cell?_alloc_at, World.cell?_alloc_past, World.cell?_alloc_lt, lt2, lt3, lt4]; done))
  have kc1_2_0 : w1.cell? ⟨w.heap.size, 2, none⟩ = some (.int .i64 0) := (hc1 (w.heap.size) 2 (by first | omega | (simp <;> omega))).trans (by first | (simp; done) | (simp [*]; done) | (simp [*, World.cell?_alloc_at, World.cell?_alloc_past, World.cell?_alloc_lt, lt2, lt3, lt4]; done))
  have kf1_0_0 : w1.frozen? ⟨w.heap.size, 0, none⟩ = false := (hf1 (w.heap.size) 0 (by first | omega | (simp <;> omega))).trans (by first | (simp; done) | (simp [*]; done) | (simp [*, World.frozen?_alloc_at, World.frozen?_alloc_past, lt2, lt3, lt4]; done))
  have kf1_1_0 : w1.frozen? ⟨w.heap.size, 1, none⟩ = false := (hf1 (w.heap.size) 1 (by first | omega | (simp <;> omega))).trans (by first | (simp; done) | (simp [*]; done) | (simp [*, World.frozen?_alloc_at, World.frozen?_alloc_past, lt2, lt3, lt4]; done))
  have kf1_2_0 : w1.frozen? ⟨w.heap.size, 2, none⟩ = false := (hf1 (w.heap.size) 2 (by first | omega | (simp <;> omega))).trans (by first | (simp; done) | (simp [*]; done) | (simp [*, World.frozen?_alloc_at, World.frozen?_alloc_past, lt2, lt3, lt4]; done))
  go_wp2_with fail
  (with_reducible refine (HD1.out _).mono ?_)
  rintro e w' ⟨rfl, rfl⟩
  go_wp2_with fail
  (with_reducible refine (HD2.out _).mono ?_)
  rintro e w' ⟨rfl, rfl⟩
  go_wp2_with fail
  (with_reducible refine (HD3.out _).mono ?_)
  rintro e w' ⟨rfl, rfl⟩
  go_wp2_with fail
  (with_reducible refine (HD4.out _).mono ?_)
  rintro e w' ⟨rfl, rfl⟩
  go_wp2_with fail
  (with_reducible refine (HSS.out _).mono ?_)
  rintro e w2 ⟨rfl, b2⟩
  have hz2 := b2.size
  obtain ⟨hc2, hf2⟩ := bcell b2
  have B2 : Below w.heap.size w w2 := Below.trans (by repeat (first | (with_reducible refine Below.drew ?_) | (with_reducible refine below_drewN ?_ _) | (with_reducible refine Below.alloc ?_ ?_ _) | (with_reducible refine Below.setCell ?_ ?_ _) | (with_reducible assumption) | (with_reducible exact Below.refl _ _) | omega | (simp <;> omega))) (b2.mono (by first | omega | (simp <;> omega)))
  (try simp at hz2)
  have hy2 : w.heap.size < w2.heap.size := by omega
  clear b2
  have kc2_0_0 : w2.cell? ⟨w.heap.size, 0, none⟩ = some (.int .i64 0) := (hc2 (w.heap.size) 0 (by first | omega | (simp <;> omega))).trans (by first | (simp; done) | (simp [*]; done) | (simp [*, World.cell?_alloc_at, World.cell?_alloc_past, World.cell?_alloc_lt, lt2, lt3, lt4]; done))
  have kc2_1_0 : w2.cell? ⟨w.heap.size, 1, none⟩ = some (.int .i64 0) := (hc2 (w.heap.size) 1 (by first | omega | (simp <;> omega))).trans (by first | (simp; done) | (simp [*]; done) | (simp [*, World.cell?_alloc_at, World.cell?_alloc_past, World.cell?_alloc_lt, lt2, lt3, lt4]; done))
  have kc2_2_0 : w2.cell? ⟨w.heap.size, 2, none⟩ = some (.int .i64 0) := (hc2 (w.heap.size) 2 (by first | omega | (simp <;> omega))).trans (by first | (simp; done) | (simp [*]; done) | (simp [*, World.cell?_alloc_at, World.cell?_alloc_past, World.cell?_alloc_lt, lt2, lt3, lt4]; done))
  have kf2_0_0 : w2.frozen? ⟨w.heap.size, 0, none⟩ = false := (hf2 (w.heap.size) 0 (by first | omega | (simp <;> omega))).trans (by first | (simp; done) | (simp [*]; done) | (simp [*, World.frozen?_alloc_at, World.frozen?_alloc_past, lt2, lt3, lt4]; done))
  have kf2_1_0 : w2.frozen? ⟨w.heap.size, 1, none⟩ = false := (hf2 (w.heap.size) 1 (by first | omega | (simp <;> omega))).trans (by first | (simp; done) | (simp [*]; done) | (simp [*, World.frozen?_alloc_at, World.frozen?_alloc_past, lt2, lt3, lt4]; done))
  have kf2_2_0 : w2.frozen? ⟨w.heap.size, 2, none⟩ = false := (hf2 (w.heap.size) 2 (by first | omega | (simp <;> omega))).trans (by first | (simp; done) | (simp [*]; done) | (simp [*, World.frozen?_alloc_at, World.frozen?_alloc_past, lt2, lt3, lt4]; done))
  go_wp2_with fail
  (with_reducible refine (HR.out _).mono ?_)
  rintro e w3 ⟨rfl, b3⟩
  have hz3 := b3.size
  obtain ⟨hc3, hf3⟩ := bcell b3
  have B3 : Below w.heap.size w w3 := Below.trans (by repeat (first | (with_reducible refine Below.drew ?_) | (with_reducible refine below_drewN ?_ _) | (with_reducible refine Below.alloc ?_ ?_ _) | (with_reducible refine Below.setCell ?_ ?_ _) | (with_reducible assumption) | (with_reducible exact Below.refl _ _) | omega | (simp <;> omega))) (b3.mono (by first | omega | (simp <;> omega)))
  (try simp at hz3)
  have hy3 : w.heap.size < w3.heap.size := by omega
  clear b3
  have kc3_0_0 : w3.cell? ⟨w.heap.size, 0, none⟩ = some (.int .i64 0) := (hc3 (w.heap.size) 0 (by first | omega | (simp <;> omega))).trans (by first | (simp; done) | (simp [*]; done) | (simp [*, World.cell?_alloc_at, World.cell?_alloc_past, World.cell?_alloc_lt, lt2, lt3, lt4]; done))
  have kc3_1_0 : w3.cell? ⟨w.heap.size, 1, none⟩ = some (.int .i64 0) := (hc3 (w.heap.size) 1 (by first | omega | (simp <;> omega))).trans (by first | (simp; done) | (simp [*]; done) | (simp [*, World.cell?_alloc_at, World.cell?_alloc_past, World.cell?_alloc_lt, lt2, lt3, lt4]; done))
  have kc3_2_0 : w3.cell? ⟨w.heap.size, 2, none⟩ = some (.int .i64 0) := (hc3 (w.heap.size) 2 (by first | omega | (simp <;> omega))).trans (by first | (simp; done) | (simp [*]; done) | (simp [*, World.cell?_alloc_at, World.cell?_alloc_past, World.cell?_alloc_lt, lt2, lt3, lt4]; done))
  have kf3_0_0 : w3.frozen? ⟨w.heap.size, 0, none⟩ = false := (hf3 (w.heap.size) 0 (by first | omega | (simp <;> omega))).trans (by first | (simp; done) | (simp [*]; done) | (simp [*, World.frozen?_alloc_at, World.frozen?_alloc_past, lt2, lt3, lt4]; done))
  have kf3_1_0 : w3.frozen? ⟨w.heap.size, 1, none⟩ = false := (hf3 (w.heap.size) 1 (by first | omega | (simp <;> omega))).trans (by first | (simp; done) | (simp [*]; done) | (simp [*, World.frozen?_alloc_at, World.frozen?_alloc_past, lt2, lt3, lt4]; done))
  have kf3_2_0 : w3.frozen? ⟨w.heap.size, 2, none⟩ = false := (hf3 (w.heap.size) 2 (by first | omega | (simp <;> omega))).trans (by first | (simp; done) | (simp [*]; done) | (simp [*, World.frozen?_alloc_at, World.frozen?_alloc_past, lt2, lt3, lt4]; done))
  go_wp2
  refine bodyPost_ret (v := .tuple #[.agg #[.int .i64 rg, .int .i64 rn, .int .i64 rd], .bool rok]) (by simp [results, Try.results58, go_sem, *, lt2, lt3, lt4, lt5, lt6]) rfl ⟨rfl, (by repeat (first | (with_reducible refine Below.drew ?_) | (with_reducible refine below_drewN ?_ _) | (with_reducible refine Below.alloc ?_ ?_ _) | (with_reducible refine Below.setCell ?_ ?_ _) | (with_reducible assumption) | (with_reducible exact Below.refl _ _) | omega | (simp <;> omega)))⟩

end Go.Proofs.Ythinhhfegflmmaa.SixS
