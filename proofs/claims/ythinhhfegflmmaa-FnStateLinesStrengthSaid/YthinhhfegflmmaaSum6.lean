/-
  The sum of a symbol of six angular momenta, the program's.
-/
import Derived.Test.YthinhhfegflmmaaSix
import Derived.Laws.Cover1
namespace Go.Proofs.Ythinhhfegflmmaa.Six
open Go.RowKit Go.Proofs.Ythinhhfegflmmaa.RatP Go.Proofs.Ythinhhfegflmmaa.ChoP Go.Proofs.Ythinhhfegflmmaa.StrP Go.Proofs.Ythinhhfegflmmaa.Spin Go.Proofs.Ythinhhfegflmmaa.Row Go.Proofs.Ythinhhfegflmmaa.Later Go.Proofs.Ythinhhfegflmmaa.Fact Go.Proofs.Ythinhhfegflmmaa.Delta
set_option linter.unusedVariables false
set_option linter.unusedSimpArgs false

/-- six cells -/
def Cells6 (W : World) (b0 : Nat) (a b c d e f : Int) : Prop := W.cell? ⟨b0, 0, none⟩ = some (.int .i64 a) ∧ W.cell? ⟨b0, 1, none⟩ = some (.int .i64 b) ∧ W.cell? ⟨b0, 2, none⟩ = some (.int .i64 c) ∧ W.cell? ⟨b0, 3, none⟩ = some (.int .i64 d) ∧ W.cell? ⟨b0, 4, none⟩ = some (.int .i64 e) ∧ W.cell? ⟨b0, 5, none⟩ = some (.int .i64 f) ∧ b0 < W.heap.size
theorem Cells6.below {W W' : World} {b0 B : Nat} {a b c d e f : Int} (h : Cells6 W b0 a b c d e f) (hb : Below B W W') (hB : b0 < B) : Cells6 W' b0 a b c d e f := by
  obtain ⟨h0, h1, h2, h3, h4, h5, h6⟩ := h
  exact ⟨(hb.cell (p := ⟨b0, 0, none⟩) hB).trans h0, (hb.cell (p := ⟨b0, 1, none⟩) hB).trans h1, (hb.cell (p := ⟨b0, 2, none⟩) hB).trans h2, (hb.cell (p := ⟨b0, 3, none⟩) hB).trans h3, (hb.cell (p := ⟨b0, 4, none⟩) hB).trans h4, (hb.cell (p := ⟨b0, 5, none⟩) hB).trans h5, Nat.lt_of_lt_of_le h6 hb.size⟩
def Cells3 (W : World) (b0 : Nat) (a b c : Int) : Prop := W.cell? ⟨b0, 0, none⟩ = some (.int .i64 a) ∧ W.cell? ⟨b0, 1, none⟩ = some (.int .i64 b) ∧ W.cell? ⟨b0, 2, none⟩ = some (.int .i64 c) ∧ b0 < W.heap.size
theorem Cells3.below {W W' : World} {b0 B : Nat} {a b c : Int} (h : Cells3 W b0 a b c) (hb : Below B W W') (hB : b0 < B) : Cells3 W' b0 a b c := by
  obtain ⟨h0, h1, h2, h6⟩ := h
  exact ⟨(hb.cell (p := ⟨b0, 0, none⟩) hB).trans h0, (hb.cell (p := ⟨b0, 1, none⟩) hB).trans h1, (hb.cell (p := ⟨b0, 2, none⟩) hB).trans h2, Nat.lt_of_lt_of_le h6 hb.size⟩
theorem low_bd (x y z u : Int) (hx : 0 ≤ x ∧ x ≤ 9) (hy : 0 ≤ y ∧ y ≤ 9) (hz : 0 ≤ z ∧ z ≤ 9) (hu : 0 ≤ u ∧ u ≤ 9) : 0 ≤ maxI (maxI (maxI (maxI 0 x) y) z) u ∧ maxI (maxI (maxI (maxI 0 x) y) z) u ≤ 9 ∧ x ≤ maxI (maxI (maxI (maxI 0 x) y) z) u ∧ y ≤ maxI (maxI (maxI (maxI 0 x) y) z) u ∧ z ≤ maxI (maxI (maxI (maxI 0 x) y) z) u ∧ u ≤ maxI (maxI (maxI (maxI 0 x) y) z) u := by
  unfold maxI
  repeat' split
  all_goals omega
theorem high_bd (x y z : Int) : minI (minI x y) z ≤ x ∧ minI (minI x y) z ≤ y ∧ minI (minI x y) z ≤ z := by
  unfold minI
  repeat' split
  all_goals omega
theorem four_cases {m : Int} (h0 : 0 ≤ m) (h4 : m ≤ 4) : m = 0 ∨ m = 1 ∨ m = 2 ∨ m = 3 ∨ m = 4 := by omega
theorem three_cases {m : Int} (h0 : 0 ≤ m) (h4 : m ≤ 3) : m = 0 ∨ m = 1 ∨ m = 2 ∨ m = 3 := by omega
theorem half_facts {a b c d e f : Int} (a0 : 0 ≤ a) (a1 : a ≤ 6) (b0 : 0 ≤ b) (b1 : b ≤ 6) (c0 : 0 ≤ c) (c1 : c ≤ 6) (d0 : 0 ≤ d) (d1 : d ≤ 6) (e0 : 0 ≤ e) (e1 : e ≤ 6) (f0 : 0 ≤ f) (f1 : f ≤ 6) :
    (0 ≤ (a + b + c) / 2 ∧ 0 ≤ (a + e + f) / 2 ∧ 0 ≤ (d + b + f) / 2 ∧ 0 ≤ (d + e + c) / 2) ∧ ((a + b + d + e) / 2 ≤ 12 ∧ (b + c + e + f) / 2 ≤ 12 ∧ (a + c + d + f) / 2 ≤ 12) := by omega
theorem round_facts {h1 h2 h3 h4 L P1 P2 P3 M2 x : Int} {n : Nat} (hL0 : 0 ≤ L) (l1 : h1 ≤ L) (l2 : h2 ≤ L) (l3 : h3 ≤ L) (l4 : h4 ≤ L) (hh1 : 0 ≤ h1) (hh2 : 0 ≤ h2) (hh3 : 0 ≤ h3) (hh4 : 0 ≤ h4) (pp1 : P1 ≤ 12) (pp2 : P2 ≤ 12) (pp3 : P3 ≤ 12) (hi1 : M2 ≤ P1) (hi2 : M2 ≤ P2) (hi3 : M2 ≤ P3) (hx : x = L + n) (hle : x ≤ M2) :
    (0 ≤ x ∧ x + 1 ≤ 13 ∧ n ≤ 12 ∧ 0 ≤ x + 1) ∧ (0 ≤ x - h1 ∧ x - h1 ≤ 13) ∧ (0 ≤ x - h2 ∧ x - h2 ≤ 13) ∧ (0 ≤ x - h3 ∧ x - h3 ≤ 13) ∧ (0 ≤ x - h4 ∧ x - h4 ≤ 13) ∧ (0 ≤ P1 - x ∧ P1 - x ≤ 13) ∧ (0 ≤ P2 - x ∧ P2 - x ≤ 13) ∧ (0 ≤ P3 - x ∧ P3 - x ≤ 13) := by omega
theorem next_facts {L M2 x : Int} {n : Nat} (hx : x = L + n) (hle : x ≤ M2) (hn : n ≤ 12) : x + 1 = L + ((n + 1 : Nat) : Int) ∧ n + 1 ≤ 13 ∧ x + 1 ≤ M2 + 1 := by omega
theorem tot_facts {tot U : Int} {n : Nat} (h1 : -(6227020800 * (n : Int)) ≤ tot) (h2 : tot ≤ 6227020800 * (n : Int)) (u0 : 0 ≤ U) (u1 : U ≤ 6227020800) : (-(6227020800 * ((n + 1 : Nat) : Int)) ≤ tot + U ∧ tot + U ≤ 6227020800 * ((n + 1 : Nat) : Int)) ∧ (-(6227020800 * ((n + 1 : Nat) : Int)) ≤ tot + -U ∧ tot + -U ≤ 6227020800 * ((n + 1 : Nat) : Int)) := by omega
theorem small_tot {tot : Int} {n : Nat} (hn : n ≤ 13) (h1 : -(6227020800 * (n : Int)) ≤ tot) (h2 : tot ≤ 6227020800 * (n : Int)) : -90000000000 ≤ tot ∧ tot ≤ 90000000000 := by omega
theorem nz_of {x : Int} (h : 1 ≤ x) : ¬ x = 0 ∧ ¬ x = -1 := by omega
theorem end_eq {L M2 x : Int} {n : Nat} (hx : x = L + n) (h : x ≤ M2 + 1 ∨ n = 0) (hn : ¬ x ≤ M2) : n = (M2 - L + 1).toNat := by rcases h with h | h <;> omega
theorem m2_is (P1 P2 P3 : Int) : (if P3 < (if P2 < P1 then P2 else P1) then P3 else (if P2 < P1 then P2 else P1)) = minI (minI P1 P2) P3 := by
  unfold minI
  repeat' split
  all_goals omega
theorem div_bd {q f : Int} (hq : 0 ≤ q ∧ q ≤ 6227020800) (hf : 1 ≤ f) : 0 ≤ q / f ∧ q / f ≤ 6227020800 :=
  ⟨Int.ediv_nonneg hq.1 (by omega), Int.le_trans (Int.ediv_le_self _ hq.1) hq.2⟩

set_option maxRecDepth 100000 in
set_option maxHeartbeats 8000000 in
theorem sum6 (a b c d e f : Int) (w : World) (h : sixOk a b c d e f = true) : Calls Try.prog 73 #[.agg #[.int .i64 a, .int .i64 b, .int .i64 c, .int .i64 d, .int .i64 e, .int .i64 f]] w (Gives (.int .i64 (sumI a b c d e f)) w) := by
  obtain ⟨k1, k2, k3, k4⟩ := six_parts h
  obtain ⟨⟨a0, a1⟩, ⟨b0, b1⟩, ⟨c0, c1⟩, -⟩ := triOk_parts k1
  obtain ⟨-, ⟨e0, e1⟩, ⟨f0, f1⟩, -⟩ := triOk_parts k2
  obtain ⟨⟨d0, d1⟩, -⟩ := triOk_parts k3
  have HA := Lib.hid (show 0 ≤ a ∧ a ≤ 6 from ⟨a0, a1⟩)
  have HB := Lib.hid (show 0 ≤ b ∧ b ≤ 6 from ⟨b0, b1⟩)
  have HC := Lib.hid (show 0 ≤ c ∧ c ≤ 6 from ⟨c0, c1⟩)
  have HD := Lib.hid (show 0 ≤ d ∧ d ≤ 6 from ⟨d0, d1⟩)
  have HE := Lib.hid (show 0 ≤ e ∧ e ≤ 6 from ⟨e0, e1⟩)
  have HF := Lib.hid (show 0 ≤ f ∧ f ≤ 6 from ⟨f0, f1⟩)
  clear k1 k2 k3 k4 h
  obtain ⟨lo0, lo9, lo1, lo2, lo3, lo4⟩ := low_bd ((a + b + c) / 2) ((a + e + f) / 2) ((d + b + f) / 2) ((d + e + c) / 2) (by omega) (by omega) (by omega) (by omega)
  obtain ⟨hi1, hi2, hi3⟩ := high_bd ((a + b + d + e) / 2) ((b + c + e + f) / 2) ((a + c + d + f) / 2)
  have LB := Lib.hid (And.intro lo1 (And.intro lo2 (And.intro lo3 lo4)))
  have PB := Lib.hid (And.intro hi1 (And.intro hi2 hi3))
  have HHF := Lib.hid (half_facts a0 a1 b0 b1 c0 c1 d0 d1 e0 e1 f0 f1)
  clear a0 a1 b0 b1 c0 c1 d0 d1 e0 e1 f0 f1 lo0 lo9 lo1 lo2 lo3 lo4 hi1 hi2 hi3
  have HS := Lib.hid (show sumI a b c d e f = sumFromTo (term6 a b c d e f) (low6 a b c d e f) (high6 a b c d e f - low6 a b c d e f + 1).toNat from rfl)
  have HL := Lib.hid (show low6 a b c d e f = maxI (maxI (maxI (maxI 0 ((a + b + c) / 2)) ((a + e + f) / 2)) ((d + b + f) / 2)) ((d + e + c) / 2) from rfl)
  have HH := Lib.hid (show high6 a b c d e f = minI (minI ((a + b + d + e) / 2) ((b + c + e + f) / 2)) ((a + c + d + f) / 2) from rfl)
  have HTM := Lib.hid (fun t => show term6 a b c d e f t = (if t % 2 = 1 then -1 else 1) * (factI (t + 1) / factI (t - (a + b + c) / 2) / factI (t - (a + e + f) / 2) / factI (t - (d + b + f) / 2) / factI (t - (d + e + c) / 2) / factI ((a + b + d + e) / 2 - t) / factI ((b + c + e + f) / 2 - t) / factI ((a + c + d + f) / 2 - t)) from rfl)

  have IXH0 := Lib.hid (fun W => idx0 (.int .i64 a) (.int .i64 b) (.int .i64 c) (.int .i64 a) (.int .i64 e) (.int .i64 f) (.int .i64 d) (.int .i64 b) (.int .i64 f) (.int .i64 d) (.int .i64 e) (.int .i64 c) W)
  have IXH1 := Lib.hid (fun W => idx1 (.int .i64 a) (.int .i64 b) (.int .i64 c) (.int .i64 a) (.int .i64 e) (.int .i64 f) (.int .i64 d) (.int .i64 b) (.int .i64 f) (.int .i64 d) (.int .i64 e) (.int .i64 c) W)
  have IXH2 := Lib.hid (fun W => idx2 (.int .i64 a) (.int .i64 b) (.int .i64 c) (.int .i64 a) (.int .i64 e) (.int .i64 f) (.int .i64 d) (.int .i64 b) (.int .i64 f) (.int .i64 d) (.int .i64 e) (.int .i64 c) W)
  have IXH3 := Lib.hid (fun W => idx3 (.int .i64 a) (.int .i64 b) (.int .i64 c) (.int .i64 a) (.int .i64 e) (.int .i64 f) (.int .i64 d) (.int .i64 b) (.int .i64 f) (.int .i64 d) (.int .i64 e) (.int .i64 c) W)
  have HT := Lib.hid (fun W => triads a b c d e f W)
  go_enter Try.func73, Try.ntmps73
  go_wp2_with fail
  (with_reducible refine (HT.out _).mono ?_)
  rintro e w1 ⟨rfl, bb1⟩
  have B1 : Below w.heap.size w w1 := ((Below.refl w.heap.size w).alloc (Nat.le_refl _) _).trans (bb1.mono (by simp))
  have C1 : Cells6 w1 w.heap.size a b c d e f := Cells6.below (W := w.alloc (.cells #[.int .i64 a, .int .i64 b, .int .i64 c, .int .i64 d, .int .i64 e, .int .i64 f] 67)) ⟨by simp, by simp, by simp, by simp, by simp, by simp, by simp⟩ bb1 (by simp)
  have HC1 := Lib.hid C1
  clear bb1 C1
  go_wp2
  go_loopw [3, 16] (fun l i wr => ∃ m L : Int, 0 ≤ m ∧ m ≤ 4 ∧ l = .int .i64 L ∧ i = .int .i64 m ∧ 0 ≤ L ∧ L ≤ 9 ∧ Below w1.heap.size w1 wr ∧ Hid ((m = 0 → L = 0) ∧ (m = 1 → L = maxI 0 ((a + b + c) / 2)) ∧ (m = 2 → L = maxI (maxI 0 ((a + b + c) / 2)) ((a + e + f) / 2)) ∧ (m = 3 → L = maxI (maxI (maxI 0 ((a + b + c) / 2)) ((a + e + f) / 2)) ((d + b + f) / 2)) ∧ (m = 4 → L = maxI (maxI (maxI (maxI 0 ((a + b + c) / 2)) ((a + e + f) / 2)) ((d + b + f) / 2)) ((d + e + c) / 2)))) (fun _ i _ => (4 - intOf i).toNat)
  case atStart => exact ⟨0, 0, by omega, by omega, rfl, rfl, by omega, by omega, Below.refl _ _, Lib.hid ⟨fun _ => rfl, fun h => absurd h (by decide), fun h => absurd h (by decide), fun h => absurd h (by decide), fun h => absurd h (by decide)⟩⟩
  case round =>
    obtain ⟨m, L, hm0, hm, rfl, rfl, hL0, hL9, hB, hG⟩ := hrel
    have hsz := hB.size
    obtain rfl | rfl | rfl | rfl | rfl := four_cases hm0 hm
    · have HP := Lib.hid (show L = 0 from hG.out.1 rfl)
      clear hG
      obtain ⟨a0, a1⟩ := HA.out; obtain ⟨b0, b1⟩ := HB.out; obtain ⟨c0, c1⟩ := HC.out
      have IX := IXH0.out
      clear IXH0 IXH1 IXH2 IXH3 HHF LB PB
      go_wp2
      all_goals
        go_roundw
        case rel => exact ⟨1, _, by decide, by decide, rfl, rfl, by omega, by omega, hB.alloc hsz _, Lib.hid ⟨fun h => absurd h (by decide), fun _ => (by have e := HP.out; rw [← e]; unfold maxI; split <;> omega), fun h => absurd h (by decide), fun h => absurd h (by decide), fun h => absurd h (by decide)⟩⟩
        case measure => simp [intOf]
    · have HP := Lib.hid (show L = maxI 0 ((a + b + c) / 2) from hG.out.2.1 rfl)
      clear hG
      obtain ⟨a0, a1⟩ := HA.out; obtain ⟨e0, e1⟩ := HE.out; obtain ⟨f0, f1⟩ := HF.out
      have IX := IXH1.out
      clear IXH0 IXH1 IXH2 IXH3 HHF LB PB
      go_wp2
      all_goals
        go_roundw
        case rel => exact ⟨2, _, by decide, by decide, rfl, rfl, by omega, by omega, hB.alloc hsz _, Lib.hid ⟨fun h => absurd h (by decide), fun h => absurd h (by decide), fun _ => (by have e := HP.out; rw [← e]; unfold maxI; split <;> omega), fun h => absurd h (by decide), fun h => absurd h (by decide)⟩⟩
        case measure => simp [intOf]
    · have HP := Lib.hid (show L = maxI (maxI 0 ((a + b + c) / 2)) ((a + e + f) / 2) from hG.out.2.2.1 rfl)
      clear hG
      obtain ⟨d0, d1⟩ := HD.out; obtain ⟨b0, b1⟩ := HB.out; obtain ⟨f0, f1⟩ := HF.out
      have IX := IXH2.out
      clear IXH0 IXH1 IXH2 IXH3 HHF LB PB
      go_wp2
      all_goals
        go_roundw
        case rel => exact ⟨3, _, by decide, by decide, rfl, rfl, by omega, by omega, hB.alloc hsz _, Lib.hid ⟨fun h => absurd h (by decide), fun h => absurd h (by decide), fun h => absurd h (by decide), fun _ => (by have e := HP.out; rw [← e]; unfold maxI; split <;> omega), fun h => absurd h (by decide)⟩⟩
        case measure => simp [intOf]
    · have HP := Lib.hid (show L = maxI (maxI (maxI 0 ((a + b + c) / 2)) ((a + e + f) / 2)) ((d + b + f) / 2) from hG.out.2.2.2.1 rfl)
      clear hG
      obtain ⟨d0, d1⟩ := HD.out; obtain ⟨e0, e1⟩ := HE.out; obtain ⟨c0, c1⟩ := HC.out
      have IX := IXH3.out
      clear IXH0 IXH1 IXH2 IXH3 HHF LB PB
      go_wp2
      all_goals
        go_roundw
        case rel => exact ⟨4, _, by decide, by decide, rfl, rfl, by omega, by omega, hB.alloc hsz _, Lib.hid ⟨fun h => absurd h (by decide), fun h => absurd h (by decide), fun h => absurd h (by decide), fun h => absurd h (by decide), fun _ => (by have e := HP.out; rw [← e]; unfold maxI; split <;> omega)⟩⟩
        case measure => simp [intOf]
    · have HP := Lib.hid ((show L = maxI (maxI (maxI (maxI 0 ((a + b + c) / 2)) ((a + e + f) / 2)) ((d + b + f) / 2)) ((d + e + c) / 2) from hG.out.2.2.2.2 rfl).trans HL.out.symm)
      obtain ⟨w2, rfl⟩ : ∃ x : World, x = wr := ⟨_, rfl⟩
      have C2 := Lib.hid (HC1.out.below hB HC1.out.2.2.2.2.2.2)
      have B2 : Below w.heap.size w w2 := B1.trans (hB.mono B1.size)
      clear hG hB HC1 B1
      obtain ⟨x0, x1, x2, x3, x4, x5, x6⟩ := C2.out
      obtain ⟨a0, a1⟩ := HA.out; obtain ⟨b0, b1⟩ := HB.out; obtain ⟨c0, c1⟩ := HC.out; obtain ⟨d0, d1⟩ := HD.out; obtain ⟨e0, e1⟩ := HE.out; obtain ⟨f0, f1⟩ := HF.out
      go_wp2
      clear a0 a1 b0 b1 c0 c1 d0 d1 e0 e1 f0 f1
      have C3 := Lib.hid (C2.out.below ((Below.refl w2.heap.size w2).alloc (Nat.le_refl _) (.cells #[.int .i64 ((a + b + d + e) / 2), .int .i64 ((b + c + e + f) / 2), .int .i64 ((a + c + d + f) / 2)] 90)) C2.out.2.2.2.2.2.2)
      have D3 := Lib.hid (show Cells3 (w2.alloc (.cells #[.int .i64 ((a + b + d + e) / 2), .int .i64 ((b + c + e + f) / 2), .int .i64 ((a + c + d + f) / 2)] 90)) w2.heap.size ((a + b + d + e) / 2) ((b + c + e + f) / 2) ((a + c + d + f) / 2) from ⟨by simp, by simp, by simp, by simp⟩)
      have B3 : Below w.heap.size w (w2.alloc (.cells #[.int .i64 ((a + b + d + e) / 2), .int .i64 ((b + c + e + f) / 2), .int .i64 ((a + c + d + f) / 2)] 90)) := B2.alloc B2.size _
      clear x0 x1 x2 x3 x4 x5 x6 C2 B2
      have hlow : ((a + b + c) / 2 ≤ L) ∧ ((a + e + f) / 2 ≤ L) ∧ ((d + b + f) / 2 ≤ L) ∧ ((d + e + c) / 2 ≤ L) := by rw [HP.out, HL.out]; exact LB.out
      have HLW := Lib.hid hlow
      clear hlow LB
      generalize (a + b + d + e) / 2 = P1 at *
      generalize (b + c + e + f) / 2 = P2 at *
      generalize (a + c + d + f) / 2 = P3 at *
      obtain ⟨M1, hin⟩ : ∃ M1, (if P2 < P1 then P2 else P1) = M1 := ⟨_, rfl⟩
      obtain ⟨M2, hout⟩ : ∃ M2, (if P3 < M1 then P3 else M1) = M2 := ⟨_, rfl⟩
      have hM : M2 = minI (minI P1 P2) P3 := by rw [← hout, ← hin]; exact m2_is P1 P2 P3
      have HM := Lib.hid (hM.trans HH.out.symm)
      have HPB := Lib.hid (show M2 ≤ P1 ∧ M2 ≤ P2 ∧ M2 ≤ P3 by rw [hM]; exact PB.out)
      generalize term6 a b c d e f = tm at *
      generalize high6 a b c d e f = hg at *
      generalize low6 a b c d e f = lw at *
      generalize sumI a b c d e f = res at *
      clear hM HH HL PB
      go_loopw [7, 8] (fun tt t wr => ∃ (n : Nat) (tot x : Int), Hid (x = L + n) ∧ n ≤ 13 ∧ Hid (x ≤ M2 + 1 ∨ n = 0) ∧ tt = .int .i64 tot ∧ t = .int .i64 x ∧ -(6227020800 * (n : Int)) ≤ tot ∧ tot ≤ 6227020800 * (n : Int) ∧ Hid (tot = sumFromTo tm L n) ∧ Below (w2.alloc (.cells #[.int .i64 P1, .int .i64 P2, .int .i64 P3] 90)).heap.size (w2.alloc (.cells #[.int .i64 P1, .int .i64 P2, .int .i64 P3] 90)) wr) (fun _ t _ => (40 - intOf t).toNat)
      case atStart => exact ⟨0, 0, L, Lib.hid (Int.add_zero L).symm, by omega, Lib.hid (.inr rfl), rfl, rfl, by omega, by omega, Lib.hid rfl, Below.refl _ _⟩
      case round =>
        obtain ⟨n, tot, x, hx, hn13, hxM, rfl, rfl, ht1, ht2, hT, hB4⟩ := hrel
        obtain ⟨w4, rfl⟩ : ∃ x : World, x = wr := ⟨_, rfl⟩
        have B4 : Below w.heap.size w w4 := B3.trans (hB4.mono B3.size)
        have C4 := Lib.hid (C3.out.below hB4 C3.out.2.2.2.2.2.2)
        have D4 := Lib.hid (D3.out.below hB4 D3.out.2.2.2)
        have BW4 := hB4
        clear hB4 B3 C3 D3
        obtain ⟨y0, y1, y2, y3⟩ := D4.out
        by_cases hle : x ≤ M2
        · obtain ⟨⟨hx0, hx13, hn12, hx01⟩, ⟨r1, s1⟩, ⟨r2, s2⟩, ⟨r3, s3⟩, ⟨r4, s4⟩, ⟨r5, s5⟩, ⟨r6, s6⟩, ⟨r7, s7⟩⟩ := round_facts hL0 HLW.out.1 HLW.out.2.1 HLW.out.2.2.1 HLW.out.2.2.2 HHF.out.1.1 HHF.out.1.2.1 HHF.out.1.2.2.1 HHF.out.1.2.2.2 HHF.out.2.1 HHF.out.2.2.1 HHF.out.2.2.2 HPB.out.1 HPB.out.2.1 HPB.out.2.2 hx.out hle
          obtain ⟨tt1, tt2⟩ := small_tot hn13 ht1 ht2
          have HF0 := Lib.hid (fun W => factorial (x + 1) W hx01 hx13)
          have q0 := factI_bd13 hx01 hx13
          have HF1 := Lib.hid (fun W => factorial (x - ((a + b + c) / 2)) W r1 s1)
          have q1 := (factI_bd13 r1 s1).1
          have HF2 := Lib.hid (fun W => factorial (x - ((a + e + f) / 2)) W r2 s2)
          have q2 := (factI_bd13 r2 s2).1
          have HF3 := Lib.hid (fun W => factorial (x - ((d + b + f) / 2)) W r3 s3)
          have q3 := (factI_bd13 r3 s3).1
          have HF4 := Lib.hid (fun W => factorial (x - ((d + e + c) / 2)) W r4 s4)
          have q4 := (factI_bd13 r4 s4).1
          have HG1 := Lib.hid (fun W => factorial (P1 - x) W r5 s5)
          have q5 := (factI_bd13 r5 s5).1
          have HG2 := Lib.hid (fun W => factorial (P2 - x) W r6 s6)
          have q6 := (factI_bd13 r6 s6).1
          have HG3 := Lib.hid (fun W => factorial (P3 - x) W r7 s7)
          have q7 := (factI_bd13 r7 s7).1
          have HTX := Lib.hid (HTM.out x)
          generalize factI (x + 1) = F0 at *
          generalize factI (x - ((a + b + c) / 2)) = F1 at *
          generalize factI (x - ((a + e + f) / 2)) = F2 at *
          generalize factI (x - ((d + b + f) / 2)) = F3 at *
          generalize factI (x - ((d + e + c) / 2)) = F4 at *
          generalize factI (P1 - x) = G1 at *
          generalize factI (P2 - x) = G2 at *
          generalize factI (P3 - x) = G3 at *
          have HQ0 := Lib.hid q0
          have HRQ1 := Lib.hid (And.intro r1 (And.intro s1 q1))
          have HRQ2 := Lib.hid (And.intro r2 (And.intro s2 q2))
          have HRQ3 := Lib.hid (And.intro r3 (And.intro s3 q3))
          have HRQ4 := Lib.hid (And.intro r4 (And.intro s4 q4))
          have HRQ5 := Lib.hid (And.intro r5 (And.intro s5 q5))
          have HRQ6 := Lib.hid (And.intro r6 (And.intro s6 q6))
          have HRQ7 := Lib.hid (And.intro r7 (And.intro s7 q7))
          have HTT := Lib.hid (And.intro tt1 (And.intro tt2 (And.intro ht1 ht2)))
          have HXX := Lib.hid (And.intro hx0 (And.intro hx13 hx01))
          have HLE := Lib.hid hle
          clear q0 r1 s1 q1 r2 s2 q2 r3 s3 q3 r4 s4 q4 r5 s5 q5 r6 s6 q6 r7 s7 q7 tt1 tt2 ht1 ht2 hL0 hL9
          obtain ⟨z0, z1, z2, z3, z4, z5, z6⟩ := C4.out
          go_wp2_with fail
          (with_reducible refine (HF0.out _).mono ?_)
          rintro e w' ⟨rfl, rfl⟩
          clear hin hout hle
          go_wp2_with fail
          (with_reducible refine (HT.out _).mono ?_)
          rintro e w5 ⟨rfl, bb5⟩
          have B5 : Below w.heap.size w w5 := B4.trans (bb5.mono B4.size)
          have BW5 := BW4.trans (bb5.mono BW4.size)
          have C5 := Lib.hid (C4.out.below bb5 C4.out.2.2.2.2.2.2)
          have D5 := Lib.hid (D4.out.below bb5 D4.out.2.2.2)
          clear bb5 C4 D4 y0 y1 y2 y3 z0 z1 z2 z3 z4 z5 z6 B4
          go_wp2
          go_loopw [9, 85] (fun q i wr => ∃ m Q : Int, 0 ≤ m ∧ m ≤ 4 ∧ q = .int .i64 Q ∧ i = .int .i64 m ∧ 0 ≤ Q ∧ Q ≤ 6227020800 ∧ Below w5.heap.size w5 wr ∧ Hid ((m = 0 → Q = F0) ∧ (m = 1 → Q = F0 / F1) ∧ (m = 2 → Q = F0 / F1 / F2) ∧ (m = 3 → Q = F0 / F1 / F2 / F3) ∧ (m = 4 → Q = F0 / F1 / F2 / F3 / F4))) (fun _ i _ => (4 - intOf i).toNat)
          case atStart => exact ⟨0, F0, by decide, by decide, rfl, rfl, Int.le_trans (by decide) HQ0.out.1, HQ0.out.2, Below.refl _ _, Lib.hid ⟨fun _ => rfl, fun h => absurd h (by decide), fun h => absurd h (by decide), fun h => absurd h (by decide), fun h => absurd h (by decide)⟩⟩
          case round =>
            obtain ⟨m, Q, hm0, hm, rfl, rfl, hQ0, hQ9, hB, hG⟩ := hrel
            have hsz := hB.size
            obtain rfl | rfl | rfl | rfl | rfl := four_cases hm0 hm
            · have HP2 := Lib.hid (show Q = F0 from hG.out.1 rfl)
              obtain ⟨r, s, q⟩ := HRQ1.out
              obtain ⟨v1, v2⟩ := div_bd (q := Q) (f := F1) ⟨hQ0, hQ9⟩ q
              obtain ⟨nz, nz'⟩ := nz_of q
              obtain ⟨hx0, hx13, hx01⟩ := HXX.out
              obtain ⟨a0, a1⟩ := HA.out; obtain ⟨b0, b1⟩ := HB.out; obtain ⟨c0, c1⟩ := HC.out
              have IX := IXH0.out
              clear IXH0 IXH1 IXH2 IXH3
              clear hG
              go_wp2_with fail
              (with_reducible refine (HF1.out _).mono ?_)
              rintro e w' ⟨rfl, rfl⟩
              go_wp2
              go_roundw
              case rel => exact ⟨1, _, by decide, by decide, rfl, rfl, v1, v2, hB.alloc hsz _, Lib.hid ⟨fun h => absurd h (by decide), fun _ => (by rw [HP2.out]), fun h => absurd h (by decide), fun h => absurd h (by decide), fun h => absurd h (by decide)⟩⟩
              case measure => simp [intOf]
            · have HP2 := Lib.hid (show Q = F0 / F1 from hG.out.2.1 rfl)
              obtain ⟨r, s, q⟩ := HRQ2.out
              obtain ⟨v1, v2⟩ := div_bd (q := Q) (f := F2) ⟨hQ0, hQ9⟩ q
              obtain ⟨nz, nz'⟩ := nz_of q
              obtain ⟨hx0, hx13, hx01⟩ := HXX.out
              obtain ⟨a0, a1⟩ := HA.out; obtain ⟨e0, e1⟩ := HE.out; obtain ⟨f0, f1⟩ := HF.out
              have IX := IXH1.out
              clear IXH0 IXH1 IXH2 IXH3
              clear hG
              go_wp2_with fail
              (with_reducible refine (HF2.out _).mono ?_)
              rintro e w' ⟨rfl, rfl⟩
              go_wp2
              go_roundw
              case rel => exact ⟨2, _, by decide, by decide, rfl, rfl, v1, v2, hB.alloc hsz _, Lib.hid ⟨fun h => absurd h (by decide), fun h => absurd h (by decide), fun _ => (by rw [HP2.out]), fun h => absurd h (by decide), fun h => absurd h (by decide)⟩⟩
              case measure => simp [intOf]
            · have HP2 := Lib.hid (show Q = F0 / F1 / F2 from hG.out.2.2.1 rfl)
              obtain ⟨r, s, q⟩ := HRQ3.out
              obtain ⟨v1, v2⟩ := div_bd (q := Q) (f := F3) ⟨hQ0, hQ9⟩ q
              obtain ⟨nz, nz'⟩ := nz_of q
              obtain ⟨hx0, hx13, hx01⟩ := HXX.out
              obtain ⟨d0, d1⟩ := HD.out; obtain ⟨b0, b1⟩ := HB.out; obtain ⟨f0, f1⟩ := HF.out
              have IX := IXH2.out
              clear IXH0 IXH1 IXH2 IXH3
              clear hG
              go_wp2_with fail
              (with_reducible refine (HF3.out _).mono ?_)
              rintro e w' ⟨rfl, rfl⟩
              go_wp2
              go_roundw
              case rel => exact ⟨3, _, by decide, by decide, rfl, rfl, v1, v2, hB.alloc hsz _, Lib.hid ⟨fun h => absurd h (by decide), fun h => absurd h (by decide), fun h => absurd h (by decide), fun _ => (by rw [HP2.out]), fun h => absurd h (by decide)⟩⟩
              case measure => simp [intOf]
            · have HP2 := Lib.hid (show Q = F0 / F1 / F2 / F3 from hG.out.2.2.2.1 rfl)
              obtain ⟨r, s, q⟩ := HRQ4.out
              obtain ⟨v1, v2⟩ := div_bd (q := Q) (f := F4) ⟨hQ0, hQ9⟩ q
              obtain ⟨nz, nz'⟩ := nz_of q
              obtain ⟨hx0, hx13, hx01⟩ := HXX.out
              obtain ⟨d0, d1⟩ := HD.out; obtain ⟨e0, e1⟩ := HE.out; obtain ⟨c0, c1⟩ := HC.out
              have IX := IXH3.out
              clear IXH0 IXH1 IXH2 IXH3
              clear hG
              go_wp2_with fail
              (with_reducible refine (HF4.out _).mono ?_)
              rintro e w' ⟨rfl, rfl⟩
              go_wp2
              go_roundw
              case rel => exact ⟨4, _, by decide, by decide, rfl, rfl, v1, v2, hB.alloc hsz _, Lib.hid ⟨fun h => absurd h (by decide), fun h => absurd h (by decide), fun h => absurd h (by decide), fun h => absurd h (by decide), fun _ => (by rw [HP2.out])⟩⟩
              case measure => simp [intOf]
            · have HP2 := Lib.hid (show Q = F0 / F1 / F2 / F3 / F4 from hG.out.2.2.2.2 rfl)
              obtain ⟨w6, rfl⟩ : ∃ x : World, x = wr := ⟨_, rfl⟩
              have B6 : Below w.heap.size w w6 := B5.trans (hB.mono B5.size)
              have hB4' := BW5.trans (hB.mono BW5.size)
              have D6 := Lib.hid (D5.out.below hB D5.out.2.2.2)
              have C6 := Lib.hid (C5.out.below hB C5.out.2.2.2.2.2.2)
              clear hB hG hsz D5 C5 B5
              obtain ⟨y0, y1, y2, y3⟩ := D6.out
              have JH0 := Lib.hid (fun W => jdx0 P1 P2 P3 W)
              have JH1 := Lib.hid (fun W => jdx1 P1 P2 P3 W)
              have JH2 := Lib.hid (fun W => jdx2 P1 P2 P3 W)
              go_wp2
              go_loopw [9, 104] (fun q i wr => ∃ m U : Int, 0 ≤ m ∧ m ≤ 3 ∧ q = .int .i64 U ∧ i = .int .i64 m ∧ 0 ≤ U ∧ U ≤ 6227020800 ∧ w6 = wr ∧ Hid ((m = 0 → U = Q) ∧ (m = 1 → U = Q / G1) ∧ (m = 2 → U = Q / G1 / G2) ∧ (m = 3 → U = Q / G1 / G2 / G3))) (fun _ i _ => (3 - intOf i).toNat)
              case atStart => exact ⟨0, Q, by decide, by decide, rfl, rfl, hQ0, hQ9, rfl, Lib.hid ⟨fun _ => rfl, fun h => absurd h (by decide), fun h => absurd h (by decide), fun h => absurd h (by decide)⟩⟩
              case round =>
                obtain ⟨m, U, hm0', hm', rfl, rfl, hU0, hU9, rfl, hG⟩ := hrel
                obtain rfl | rfl | rfl | rfl := three_cases hm0' hm'
                · have HP3 := Lib.hid (show U = Q from hG.out.1 rfl)
                  obtain ⟨r, s, q⟩ := HRQ5.out
                  obtain ⟨v1, v2⟩ := div_bd (q := U) (f := G1) ⟨hU0, hU9⟩ q
                  obtain ⟨nz, nz'⟩ := nz_of q
                  obtain ⟨hx0, hx13, hx01⟩ := HXX.out
                  have J := JH0.out
                  clear JH0 JH1 JH2
                  clear hG
                  go_wp2_with fail
                  (with_reducible refine (HG1.out _).mono ?_)
                  rintro e w' ⟨rfl, rfl⟩
                  go_wp2
                  go_roundw
                  case rel => exact ⟨1, _, by decide, by decide, rfl, rfl, v1, v2, trivial, Lib.hid ⟨fun h => absurd h (by decide), fun _ => (by rw [HP3.out]), fun h => absurd h (by decide), fun h => absurd h (by decide)⟩⟩
                  case measure => simp [intOf]
                · have HP3 := Lib.hid (show U = Q / G1 from hG.out.2.1 rfl)
                  obtain ⟨r, s, q⟩ := HRQ6.out
                  obtain ⟨v1, v2⟩ := div_bd (q := U) (f := G2) ⟨hU0, hU9⟩ q
                  obtain ⟨nz, nz'⟩ := nz_of q
                  obtain ⟨hx0, hx13, hx01⟩ := HXX.out
                  have J := JH1.out
                  clear JH0 JH1 JH2
                  clear hG
                  go_wp2_with fail
                  (with_reducible refine (HG2.out _).mono ?_)
                  rintro e w' ⟨rfl, rfl⟩
                  go_wp2
                  go_roundw
                  case rel => exact ⟨2, _, by decide, by decide, rfl, rfl, v1, v2, trivial, Lib.hid ⟨fun h => absurd h (by decide), fun h => absurd h (by decide), fun _ => (by rw [HP3.out]), fun h => absurd h (by decide)⟩⟩
                  case measure => simp [intOf]
                · have HP3 := Lib.hid (show U = Q / G1 / G2 from hG.out.2.2.1 rfl)
                  obtain ⟨r, s, q⟩ := HRQ7.out
                  obtain ⟨v1, v2⟩ := div_bd (q := U) (f := G3) ⟨hU0, hU9⟩ q
                  obtain ⟨nz, nz'⟩ := nz_of q
                  obtain ⟨hx0, hx13, hx01⟩ := HXX.out
                  have J := JH2.out
                  clear JH0 JH1 JH2
                  clear hG
                  go_wp2_with fail
                  (with_reducible refine (HG3.out _).mono ?_)
                  rintro e w' ⟨rfl, rfl⟩
                  go_wp2
                  go_roundw
                  case rel => exact ⟨3, _, by decide, by decide, rfl, rfl, v1, v2, trivial, Lib.hid ⟨fun h => absurd h (by decide), fun h => absurd h (by decide), fun h => absurd h (by decide), fun _ => (by rw [HP3.out])⟩⟩
                  case measure => simp [intOf]
                · have HP3 := Lib.hid (show U = Q / G1 / G2 / G3 from hG.out.2.2.2 rfl)
                  clear hG
                  have HTF := Lib.hid (show tm x = (if x % 2 = 1 then -1 else 1) * U by rw [HTX.out, HP3.out, HP2.out])
                  obtain ⟨nx1, nx2, nx3⟩ := next_facts hx.out HLE.out hn12
                  have NX1 := Lib.hid nx1
                  clear nx1
                  obtain ⟨u2, u3⟩ := tot_facts HTT.out.2.2.1 HTT.out.2.2.2 hU0 hU9
                  obtain ⟨hx0, hx13, hx01⟩ := HXX.out
                  obtain ⟨tt1, tt2, -, -⟩ := HTT.out
                  have hsum : sumFromTo tm L (n + 1) = sumFromTo tm L n + tm x := by rw [hx.out]; rfl
                  have HSM := Lib.hid hsum
                  clear hsum
                  by_cases hpar : x % 2 = 1
                  · have hp1 : (x % 2 == 1) = true := by rw [beq_iff_eq]; exact hpar
                    have HX := Lib.hid (show tm x = -U by rw [HTF.out, if_pos hpar]; omega)
                    clear hpar
                    go_wp2
                    go_roundw
                    case rel => exact ⟨n + 1, _, x + 1, NX1, nx2, Lib.hid (.inl nx3), rfl, rfl, u3.1, u3.2, Lib.hid (by rw [HSM.out, HX.out, ← hT.out]), hB4'⟩
                    case measure => simp [intOf]; omega
                  · have hp1 : (x % 2 == 1) = false := by rw [beq_eq_false_iff_ne]; exact hpar
                    have HX := Lib.hid (show tm x = U by rw [HTF.out, if_neg hpar]; omega)
                    clear hpar
                    go_wp2
                    go_roundw
                    case rel => exact ⟨n + 1, _, x + 1, NX1, nx2, Lib.hid (.inl nx3), rfl, rfl, u2.1, u2.2, Lib.hid (by rw [HSM.out, HX.out, ← hT.out]), hB4'⟩
                    case measure => simp [intOf]; omega
        · have HR := Lib.hid (show tot = res by
            rw [hT.out, HS.out, ← HP.out, ← HM.out, ← end_eq hx.out hxM.out hle])
          clear hT
          go_wp2
          go_ret
          exact ⟨ret_int HR.out, B4⟩

end Go.Proofs.Ythinhhfegflmmaa.Six
