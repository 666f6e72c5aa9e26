/-
  SixJ: the program's, from the contract of its sum.
-/
import Derived.Test.YthinhhfegflmmaaSix
import Derived.Test.YthinhhfegflmmaaLineS
namespace Go.Proofs.Ythinhhfegflmmaa.SixI
open Go.RowKit Go.Proofs.Ythinhhfegflmmaa.RatP Go.Proofs.Ythinhhfegflmmaa.Rat Go.Proofs.Ythinhhfegflmmaa.ChoP Go.Proofs.Ythinhhfegflmmaa.StrP Go.Proofs.Ythinhhfegflmmaa.Spin Go.Proofs.Ythinhhfegflmmaa.Row Go.Proofs.Ythinhhfegflmmaa.Later Go.Proofs.Ythinhhfegflmmaa.Fact Go.Proofs.Ythinhhfegflmmaa.Delta Go.Proofs.Ythinhhfegflmmaa.Ways Go.Proofs.Ythinhhfegflmmaa.Root Go.Proofs.Ythinhhfegflmmaa.Two Go.Proofs.Ythinhhfegflmmaa.SixS Go.Proofs.Ythinhhfegflmmaa.LineS Go.Proofs.Ythinhhfegflmmaa.Six
set_option linter.unusedVariables false
set_option linter.unusedSimpArgs false

theorem five_cases {m : Int} (h0 : 0 ≤ m) (h4 : m ≤ 4) : m = 0 ∨ m = 1 ∨ m = 2 ∨ m = 3 ∨ m = 4 := by omega
/-- what the sum of a symbol returns -/
def SumGives (a b c d e : Int) : Prop := ∀ W, Calls Try.prog 73 #[.agg #[.int .i64 a, .int .i64 b, .int .i64 c, .int .i64 d, .int .i64 e, .int .i64 2]] W (Gives (.int .i64 (sumI a b c d e 2)) W)

/-- six cells -/
def Cell6 (W : World) (b0 : Nat) (a b c d e f : Int) : Prop := W.cell? ⟨b0, 0, none⟩ = some (.int .i64 a) ∧ W.cell? ⟨b0, 1, none⟩ = some (.int .i64 b) ∧ W.cell? ⟨b0, 2, none⟩ = some (.int .i64 c) ∧ W.cell? ⟨b0, 3, none⟩ = some (.int .i64 d) ∧ W.cell? ⟨b0, 4, none⟩ = some (.int .i64 e) ∧ W.cell? ⟨b0, 5, none⟩ = some (.int .i64 f) ∧ b0 < W.heap.size
theorem Cell6.below {W W' : World} {b0 B : Nat} {a b c d e f : Int} (h : Cell6 W b0 a b c d e f) (hb : Below B W W') (hB : b0 < B) : Cell6 W' b0 a b c d e f := by
  obtain ⟨h0, h1, h2, h3, h4, h5, h6⟩ := h
  exact ⟨(hb.cell (p := ⟨b0, 0, none⟩) hB).trans h0, (hb.cell (p := ⟨b0, 1, none⟩) hB).trans h1, (hb.cell (p := ⟨b0, 2, none⟩) hB).trans h2, (hb.cell (p := ⟨b0, 3, none⟩) hB).trans h3, (hb.cell (p := ⟨b0, 4, none⟩) hB).trans h4, (hb.cell (p := ⟨b0, 5, none⟩) hB).trans h5, Nat.lt_of_lt_of_le h6 hb.size⟩
/-- three cells that can be written -/
def Res3 (W : World) (b : Nat) : Prop := (W.cell? ⟨b, 0, none⟩ = some (.int .i64 0) ∧ W.cell? ⟨b, 1, none⟩ = some (.int .i64 0) ∧ W.cell? ⟨b, 2, none⟩ = some (.int .i64 0)) ∧ (W.frozen? ⟨b, 0, none⟩ = false ∧ W.frozen? ⟨b, 1, none⟩ = false ∧ W.frozen? ⟨b, 2, none⟩ = false) ∧ b < W.heap.size
theorem Res3.below {W W' : World} {b B : Nat} (h : Res3 W b) (hb : Below B W W') (hB : b < B) : Res3 W' b := by
  obtain ⟨⟨h0, h1, h2⟩, ⟨f0, f1, f2⟩, h6⟩ := h
  exact ⟨⟨(hb.cell (p := ⟨b, 0, none⟩) hB).trans h0, (hb.cell (p := ⟨b, 1, none⟩) hB).trans h1, (hb.cell (p := ⟨b, 2, none⟩) hB).trans h2⟩, ⟨(hb.frozen (p := ⟨b, 0, none⟩) hB).trans f0, (hb.frozen (p := ⟨b, 1, none⟩) hB).trans f1, (hb.frozen (p := ⟨b, 2, none⟩) hB).trans f2⟩, Nat.lt_of_lt_of_le h6 hb.size⟩

set_option maxRecDepth 100000 in
set_option maxHeartbeats 8000000 in
theorem iSixJ (a b c d e : Int) (w : World) (hd : Dom a b c d e) (HS6 : SumGives a b c d e) : Calls Try.prog 48 #[.int .i64 a, .int .i64 b, .int .i64 c, .int .i64 d, .int .i64 e, .int .i64 2] w (Gives (rtV (rootR (sumI a b c d e 2) 1 (den6 a b c d e 2))) w) := by
  obtain ⟨k1, k2, k3, k4⟩ := six_small hd.2.2.2.2.2
  obtain ⟨-, -, -, -, q1, q2, q3, q4, -, -, -, q5, q6⟩ := of_decide_eq_true (every6_at den_bds hd)
  obtain ⟨g1, g2, g3, g4, g5⟩ := six_facts hd
  have HK := Lib.hid (fun W => exists_is W hd.2.2.2.2.2)
  have HT := Lib.hid (fun W => triads a b c d e 2 W)
  have HD1 := Lib.hid (fun W => iDelta a b c W k1)
  have HD2 := Lib.hid (fun W => iDelta a e 2 W k2)
  have HD3 := Lib.hid (fun W => iDelta d b 2 W k3)
  have HD4 := Lib.hid (fun W => iDelta d e c W k4)
  have HSS := Lib.hid HS6
  unfold SumGives at HSS
  have HR := Lib.hid (fun W => iRootOf (sumI a b c d e 2) 1 (den6 a b c d e 2) W g3 (by omega) ⟨g4, g5⟩)
  have hden : deltaI a b c * deltaI a e 2 * deltaI d b 2 * deltaI d e c = den6 a b c d e 2 := rfl
  rw [← hden] at HR g4 g5 ⊢
  clear k1 k2 k3 k4 hd g1 g2 g3 hden HS6
  unfold rtV at HR ⊢
  generalize deltaI a b c = D1 at *
  generalize deltaI a e 2 = D2 at *
  generalize deltaI d b 2 = D3 at *
  generalize deltaI d e c = D4 at *
  generalize sumI a b c d e 2 = S at *
  generalize rootR S 1 (D1 * D2 * D3 * D4) = r at *
  obtain ⟨rg, rn, rd, rok⟩ := r
  obtain ⟨q1a, q1b⟩ := q1
  obtain ⟨q2a, q2b⟩ := q2
  obtain ⟨q3a, q3b⟩ := q3
  obtain ⟨q4a, q4b⟩ := q4
  obtain ⟨q5a, q5b⟩ := q5
  obtain ⟨q6a, q6b⟩ := q6

  have IX0 := fun W => idx0 (.int .i64 a) (.int .i64 b) (.int .i64 c) (.int .i64 a) (.int .i64 e) (.int .i64 2) (.int .i64 d) (.int .i64 b) (.int .i64 2) (.int .i64 d) (.int .i64 e) (.int .i64 c) W
  have IX1 := fun W => idx1 (.int .i64 a) (.int .i64 b) (.int .i64 c) (.int .i64 a) (.int .i64 e) (.int .i64 2) (.int .i64 d) (.int .i64 b) (.int .i64 2) (.int .i64 d) (.int .i64 e) (.int .i64 c) W
  have IX2 := fun W => idx2 (.int .i64 a) (.int .i64 b) (.int .i64 c) (.int .i64 a) (.int .i64 e) (.int .i64 2) (.int .i64 d) (.int .i64 b) (.int .i64 2) (.int .i64 d) (.int .i64 e) (.int .i64 c) W
  have IX3 := fun W => idx3 (.int .i64 a) (.int .i64 b) (.int .i64 c) (.int .i64 a) (.int .i64 e) (.int .i64 2) (.int .i64 d) (.int .i64 b) (.int .i64 2) (.int .i64 d) (.int .i64 e) (.int .i64 c) W
  go_enter Try.func48, Try.ntmps48
  go_wp2_with fail
  (with_reducible refine (HK.out _).mono ?_)
  rintro e' w1 ⟨rfl, b1⟩
  have B1 : Below w.heap.size w w1 := Below.trans (by repeat (first | (with_reducible refine Below.drew ?_) | (with_reducible refine below_drewN ?_ _) | (with_reducible refine Below.alloc ?_ ?_ _) | (with_reducible refine Below.setCell ?_ ?_ _) | (with_reducible assumption) | (with_reducible exact Below.refl _ _) | omega | (simp <;> omega))) (b1.mono (by first | omega | (simp <;> omega)))
  have C0 : Cell6 ((w.alloc (.cells #[.int .i64 0, .int .i64 0, .int .i64 0] 70)).alloc (.cells #[.int .i64 a, .int .i64 b, .int .i64 c, .int .i64 d, .int .i64 e, .int .i64 2] 67)) (w.heap.size + 1) a b c d e 2 := ⟨by simp [World.cell?_alloc_at], by simp [World.cell?_alloc_at], by simp [World.cell?_alloc_at], by simp [World.cell?_alloc_at], by simp [World.cell?_alloc_at], by simp [World.cell?_alloc_at], by simp⟩
  have R0 : Res3 ((w.alloc (.cells #[.int .i64 0, .int .i64 0, .int .i64 0] 70)).alloc (.cells #[.int .i64 a, .int .i64 b, .int .i64 c, .int .i64 d, .int .i64 e, .int .i64 2] 67)) w.heap.size := ⟨⟨by simp, by simp, by simp⟩, ⟨by simp, by simp, by simp⟩, by simp <;> omega⟩
  have C1 := Lib.hid (C0.below b1 C0.2.2.2.2.2.2)
  have R1 := Lib.hid (R0.below b1 R0.2.2)
  have hz1 := b1.size
  simp at hz1
  clear b1 C0 R0
  obtain ⟨x0, x1, x2, x3, x4, x5, x6⟩ := C1.out
  go_wp2_with fail
  (with_reducible refine (HT.out _).mono ?_)
  rintro e' w2 ⟨rfl, b2⟩
  have B2 : Below w.heap.size w w2 := B1.trans (b2.mono B1.size)
  have C2 := Lib.hid (C1.out.below b2 C1.out.2.2.2.2.2.2)
  have R2 := Lib.hid (R1.out.below b2 R1.out.2.2)
  clear b2 C1 R1 x0 x1 x2 x3 x4 x5 x6 B1 hz1
  go_wp2
  go_loopw [15, 31] (fun q i wr => ∃ m Q : Int, 0 ≤ m ∧ m ≤ 4 ∧ q = .int .i64 Q ∧ i = .int .i64 m ∧ Below w2.heap.size w2 wr ∧ Hid ((m = 0 → Q = 1) ∧ (m = 1 → Q = D1) ∧ (m = 2 → Q = D1 * D2) ∧ (m = 3 → Q = D1 * D2 * D3) ∧ (m = 4 → Q = D1 * D2 * D3 * D4))) (fun _ i _ => (4 - intOf i).toNat)
  case atStart => exact ⟨0, 1, by decide, by decide, rfl, rfl, Below.refl _ _, Lib.hid ⟨fun _ => rfl, fun h => absurd h (by decide), fun h => absurd h (by decide), fun h => absurd h (by decide), fun h => absurd h (by decide)⟩⟩
  case round =>
    obtain ⟨m, Q, hm0, hm, rfl, rfl, hB, hG⟩ := hrel
    have hsz := hB.size
    obtain rfl | rfl | rfl | rfl | rfl := five_cases hm0 hm
    · obtain rfl : Q = 1 := hG.out.1 rfl
      clear hG
      go_wp2_with fail
      (with_reducible refine (HD1.out _).mono ?_)
      rintro e' w' ⟨rfl, rfl⟩
      go_wp2
      go_roundw
      case rel => exact ⟨1, _, by decide, by decide, rfl, rfl, hB.alloc hsz _, Lib.hid ⟨fun h => absurd h (by decide), fun _ => (by first | rfl | simp), fun h => absurd h (by decide), fun h => absurd h (by decide), fun h => absurd h (by decide)⟩⟩
      case measure => simp [intOf]
    · obtain rfl : Q = D1 := hG.out.2.1 rfl
      clear hG
      go_wp2_with fail
      (with_reducible refine (HD2.out _).mono ?_)
      rintro e' w' ⟨rfl, rfl⟩
      go_wp2
      go_roundw
      case rel => exact ⟨2, _, by decide, by decide, rfl, rfl, hB.alloc hsz _, Lib.hid ⟨fun h => absurd h (by decide), fun h => absurd h (by decide), fun _ => (by first | rfl | simp), fun h => absurd h (by decide), fun h => absurd h (by decide)⟩⟩
      case measure => simp [intOf]
    · obtain rfl : Q = D1 * D2 := hG.out.2.2.1 rfl
      clear hG
      go_wp2_with fail
      (with_reducible refine (HD3.out _).mono ?_)
      rintro e' w' ⟨rfl, rfl⟩
      go_wp2
      go_roundw
      case rel => exact ⟨3, _, by decide, by decide, rfl, rfl, hB.alloc hsz _, Lib.hid ⟨fun h => absurd h (by decide), fun h => absurd h (by decide), fun h => absurd h (by decide), fun _ => (by first | rfl | simp), fun h => absurd h (by decide)⟩⟩
      case measure => simp [intOf]
    · obtain rfl : Q = D1 * D2 * D3 := hG.out.2.2.2.1 rfl
      clear hG
      go_wp2_with fail
      (with_reducible refine (HD4.out _).mono ?_)
      rintro e' w' ⟨rfl, rfl⟩
      go_wp2
      go_roundw
      case rel => exact ⟨4, _, by decide, by decide, rfl, rfl, hB.alloc hsz _, Lib.hid ⟨fun h => absurd h (by decide), fun h => absurd h (by decide), fun h => absurd h (by decide), fun h => absurd h (by decide), fun _ => (by first | rfl | simp)⟩⟩
      case measure => simp [intOf]
    · obtain rfl : Q = D1 * D2 * D3 * D4 := hG.out.2.2.2.2 rfl
      obtain ⟨w3, rfl⟩ : ∃ x : World, x = wr := ⟨_, rfl⟩
      have B3 : Below w.heap.size w w3 := B2.trans (hB.mono B2.size)
      have C3 := Lib.hid (C2.out.below hB C2.out.2.2.2.2.2.2)
      have R3 := Lib.hid (R2.out.below hB R2.out.2.2)
      clear hB hG hsz C2 R2 B2
      obtain ⟨x0, x1, x2, x3, x4, x5, x6⟩ := C3.out
      go_wp2_with fail
      (with_reducible refine (HSS.out _).mono ?_)
      rintro e' w4 ⟨rfl, b4⟩
      have B4 : Below w.heap.size w w4 := B3.trans (b4.mono B3.size)
      have R4 := Lib.hid (R3.out.below b4 R3.out.2.2)
      clear b4 C3 R3 x0 x1 x2 x3 x4 x5 x6 B3
      go_wp2_with fail
      (with_reducible refine (HR.out _).mono ?_)
      rintro e' w5 ⟨rfl, b5⟩
      have B5 : Below w.heap.size w w5 := B4.trans (b5.mono B4.size)
      obtain ⟨⟨r0, r1, r2⟩, ⟨f0, f1, f2⟩, r3⟩ := R4.out.below b5 R4.out.2.2
      clear b5 R4 B4
      go_wp2
      refine bodyPost_ret (v := .tuple #[.agg #[.int .i64 rg, .int .i64 rn, .int .i64 rd], .bool rok]) (by simp [results, Try.results48, go_sem, *, lt2, lt3, lt4, lt5, lt6]) rfl ⟨rfl, (by repeat (first | (with_reducible refine Below.drew ?_) | (with_reducible refine below_drewN ?_ _) | (with_reducible refine Below.alloc ?_ ?_ _) | (with_reducible refine Below.setCell ?_ ?_ _) | (with_reducible assumption) | (with_reducible exact Below.refl _ _) | omega | (simp <;> omega)))⟩

end Go.Proofs.Ythinhhfegflmmaa.SixI
