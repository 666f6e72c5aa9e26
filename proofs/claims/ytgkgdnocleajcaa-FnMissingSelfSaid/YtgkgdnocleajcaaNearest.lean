/-
  Contract of nearestLine: the first of the nearest lines.
-/
import Derived.Test.YtgkgdnocleajcaaLinesFn
import Derived.Test.YtgkgdnocleajcaaLinesS
import Derived.Test.YtgkgdnocleajcaaPlainMatch
import Derived.Test.YtgkgdnocleajcaaShelf
import Derived.Shelf.SlSorted.Search
import Derived.RegionTactic
namespace Go.Proofs.Ytgkgdnocleajcaa.Nearest
open Go.RowKit Go.Sort Go.Shelf Go.Lib Go.Proofs.Ytgkgdnocleajcaa.Spin Go.Proofs.Ytgkgdnocleajcaa.Row Go.Proofs.Ytgkgdnocleajcaa.Plain Go.Proofs.Ytgkgdnocleajcaa.Later Go.Proofs.Ytgkgdnocleajcaa.Node Go.Proofs.Ytgkgdnocleajcaa.Line Go.Proofs.Ytgkgdnocleajcaa.LinesFn Go.Proofs.Ytgkgdnocleajcaa.LinesS
set_option linter.unusedVariables false
set_option linter.unusedSimpArgs false

def seenOk (x t : Int) : Bool := decide ((0 ≤ x ∧ x ≤ 200000) ∧ (0 ≤ t ∧ t ≤ 1000))
theorem seenOk_true {x t : Int} : seenOk x t = true ↔ (0 ≤ x ∧ x ≤ 200000) ∧ (0 ≤ t ∧ t ≤ 1000) := by simp [seenOk]
theorem seenValid (x t : Int) (w : World) : Calls Try.prog 58 #[.int .i64 x, .int .i64 t] w fun e w' => e = .returned (.bool (seenOk x t)) ∧ w = w' := by
  by_cases h1 : 0 ≤ x
  · by_cases h2 : x ≤ 200000
    · by_cases h3 : 0 ≤ t
      · have HR := Lib.hid (show seenOk x t = decide (t ≤ 1000) by simp [seenOk, h1, h2, h3])
        go_enter Try.func58, Try.ntmps58
        go_wp2
        all_goals go_ret
        all_goals exact ⟨ret_bool (by first | exact HR.out.symm | (rw [HR.out]; simp; omega)), rfl⟩
      · have HR := Lib.hid (show seenOk x t = false by simp [seenOk, h3])
        go_enter Try.func58, Try.ntmps58
        go_wp2
        go_ret
        exact ⟨ret_bool HR.out.symm, rfl⟩
    · have HR := Lib.hid (show seenOk x t = false by simp [seenOk, h2])
      go_enter Try.func58, Try.ntmps58
      go_wp2
      go_ret
      exact ⟨ret_bool HR.out.symm, rfl⟩
  · have HR := Lib.hid (show seenOk x t = false by simp [seenOk, h1])
    go_enter Try.func58, Try.ntmps58
    go_wp2
    go_ret
    exact ⟨ret_bool HR.out.symm, rfl⟩
theorem seen_is {x t : Int} {r : Bool} (w : World) (h : seenOk x t = r) : Calls Try.prog 58 #[.int .i64 x, .int .i64 t] w fun e w' => e = .returned (.bool r) ∧ w = w' := h ▸ seenValid x t w

theorem grow_below (w : World) (m : Nat) (os : Array Obj) : Below w.heap.size w (grow (w.drewN m) os) :=
  ⟨rfl, rfl, rfl, by simp [grow, World.drewN], fun k hk => by
    show (w.heap ++ os)[k]? = w.heap[k]?
    rw [Array.getElem?_append_left hk]⟩

set_option maxHeartbeats 1000000 in
theorem atLeast (l : List Ln) (v : Value) (p1 p2 : Nat) (x : Int) (i : Nat) (W : World) (hs : Sees W 3 v l.length (l.flatMap encLn)) (hi : i < l.length) (h1 : W.cell? ⟨p1, 0, none⟩ = some v) (h2 : W.cell? ⟨p2, 0, none⟩ = some (.int .i64 x)) :
    Calls Try.prog 73 (#[.int .i64 i] ++ #[.pointer (some ⟨p1, 0, none⟩), .pointer (some ⟨p2, 0, none⟩)]) W fun e w' => e = .returned (.bool (decide (x ≤ (lth l i).n))) ∧ ∃ q, w' = W.drewN q := by
  rcases hs.2 with ⟨h0, _⟩ | ⟨b, o, c, rfl, hnc, hcm, hb, hcell⟩
  · omega
  · obtain ⟨_, _, u2⟩ := line_cells (w := W) (xs := l) (b := b) (o := o) hcell i hi
    rw [← lth_eq hi] at u2
    generalize (lth l i).n = y at *
    obtain ⟨n, hn⟩ : ∃ n, n = l.length := ⟨_, rfl⟩
    rw [← hn] at hi h1
    have hi0 : (0 : Int) ≤ (i : Int) := by omega
    have hi1 : (i : Int) < (n : Int) := by omega
    clear hs hcell hn hcm hnc
    show Calls Try.prog 73 #[.int .i64 i, .pointer (some ⟨p1, 0, none⟩), .pointer (some ⟨p2, 0, none⟩)] W _
    go_enter Try.func73, Try.ntmps73
    go_wp2
    go_quiet (fail)
    go_wp2
    go_ret
    exact ⟨rfl, _, rfl⟩

set_option maxHeartbeats 1000000 in
theorem first (l : List Ln) (v : Value) (p1 : Nat) (x : Int) (w : World) (hs : Sees w 3 v l.length (l.flatMap encLn)) (h1 : w.cell? ⟨p1, 0, none⟩ = some v) (hp : p1 < w.heap.size) (hasc : Asc l) (hl : l.length ≤ 1000) :
    Calls Try.prog 71 #[.int .i64 x, .pointer (some ⟨p1, 0, none⟩)] w (Gives (.int .i64 (firstAt l x : Nat)) w) := by
  have hB : Below w.heap.size w (w.alloc (.cells #[.int .i64 x] 3)) := (by repeat (first | (with_reducible refine Below.drew ?_) | (with_reducible refine below_drewN ?_ _) | (with_reducible refine Below.alloc ?_ ?_ _) | (with_reducible refine Below.setCell ?_ ?_ _) | (with_reducible assumption) | (with_reducible exact Below.refl _ _) | omega | (simp <;> omega)))
  have eg : ∀ args w, (callFunc 73 args).run Try.prog w = .ok (.enter 73 args) w := enters_of Try.func73 (by kernel_rfl) rfl
  have hS := Any.sort_Search Shelf.laysSearch 73 #[.pointer (some ⟨p1, 0, none⟩), .pointer (some ⟨w.heap.size, 0, none⟩)] l.length (fun i => decide (x ≤ (lth l i).n)) (w.alloc (.cells #[.int .i64 x] 3)) eg (by omega)
    (fun m os i hi => (atLeast l v p1 w.heap.size x i _ ((hs.below hB (Nat.le_refl _)).below (grow_below _ m os) (Nat.le_refl _)) hi (((grow_below _ m os).cell (p := ⟨p1, 0, none⟩) (by simp; omega)).trans ((hB.cell (p := ⟨p1, 0, none⟩) hp).trans h1)) (((grow_below _ m os).cell (p := ⟨w.heap.size, 0, none⟩) (by simp)).trans (by simp))).mono
      fun _ _ ⟨he, q, hq⟩ => ⟨he, q, #[], by rw [hq, grow_empty]⟩) (firstAt_mono hasc x)
  have hS' : Calls Try.prog 72 #[.int .i64 (l.length : Int), .func (.func 73) #[] #[.pointer (some ⟨p1, 0, none⟩), .pointer (some ⟨w.heap.size, 0, none⟩)]] (w.alloc (.cells #[.int .i64 x] 3)) fun e w' => e = .returned (.int .i64 (firstAt l x : Nat)) ∧ ∃ q os, w' = grow ((w.alloc (.cells #[.int .i64 x] 3)).drewN q) os := hS
  have HS := Lib.hid hS'
  generalize firstAt l x = r at *
  obtain ⟨a, c, rfl⟩ : ∃ a c, v = .slice a l.length c := by
    rcases hs.2 with ⟨h0, a, c, rfl⟩ | ⟨b, o, c, rfl, _⟩
    · exact ⟨a, c, by rw [h0]⟩
    · exact ⟨_, _, rfl⟩
  obtain ⟨n, hn⟩ : ∃ n, n = l.length := ⟨_, rfl⟩
  rw [← hn] at h1 HS
  clear hS hS' hs hn hasc hl
  go_enter Try.func71, Try.ntmps71
  go_wp2_with fail
  refine HS.out.mono ?_
  rintro e w1 ⟨rfl, q, os, hw⟩
  have B1 : Below w.heap.size w w1 := by rw [hw]; exact hB.trans ((grow_below _ q os).mono (by simp))
  clear HS hw
  go_wp2
  go_ret
  exact ⟨rfl, B1⟩

theorem nearest_far {l : List Ln} {x t : Int} {k : Nat} (h : nearL l x = k) (hf : t < off l x k) : nearest l x t = -1 := by
  unfold nearest
  rw [h, Int.toNat_natCast, if_pos ⟨by omega, hf⟩]
theorem nearest_near {l : List Ln} {x t : Int} {k : Nat} (h : nearL l x = k) (hf : ¬ t < off l x k) : nearest l x t = k := by
  unfold nearest
  rw [h, Int.toNat_natCast, if_neg (fun g => hf g.2)]
theorem nearest_none {l : List Ln} {x t : Int} (h : nearL l x = -1) : nearest l x t = -1 := by
  unfold nearest
  rw [h, if_neg (by omega)]
theorem nearL_0 {l : List Ln} {x : Int} (h : firstAt l x = 0) (hl : 0 < l.length) : nearL l x = (0 : Nat) := by
  unfold nearL
  simp [h, hl]
theorem nearL_none {l : List Ln} {x : Int} (h : firstAt l x = 0) (hl : l.length = 0) : nearL l x = -1 := by
  unfold nearL
  simp [h, hl]
theorem nearL_at {l : List Ln} {x : Int} {a b : Nat} (h : firstAt l x = a) (ha : 0 < a) (hb : firstAt l (lth l (a - 1)).n = b) (hl : a < l.length) (hc : (lth l a).n - x < x - (lth l b).n) : nearL l x = a := by
  unfold nearL
  simp only [h]
  rw [if_pos ha, hb, Int.toNat_natCast, if_pos ⟨hl, .inr hc⟩]
theorem nearL_b {l : List Ln} {x : Int} {a b : Nat} (h : firstAt l x = a) (ha : 0 < a) (hb : firstAt l (lth l (a - 1)).n = b) (hc : ¬ (a < l.length ∧ (lth l a).n - x < x - (lth l b).n)) : nearL l x = b := by
  unfold nearL
  simp only [h]
  rw [if_pos ha, hb, Int.toNat_natCast, if_neg (by rintro ⟨h1, h2 | h2⟩; · omega
                                                   · exact hc ⟨h1, h2⟩)]
theorem first_prev {l : List Ln} (h : Asc l) {x : Int} {a : Nat} (ha : firstAt l x = a) (h0 : 0 < a) : firstAt l (lth l (a - 1)).n ≤ a - 1 := by
  have hle := firstAt_le l x
  rcases Nat.lt_or_ge (a - 1) (firstAt l (lth l (a - 1)).n) with g | g
  · have := (firstAt_spec h (lth l (a - 1)).n).1 _ g
    omega
  · exact g

set_option maxRecDepth 100000 in
set_option maxHeartbeats 4000000 in
theorem nearestLine (l : List Ln) (v : Value) (x t : Int) (w : World) (hs : Sees w 3 v l.length (l.flatMap encLn)) (hasc : Asc l) (hl : l.length ≤ 1000) (hx : 0 ≤ x ∧ x ≤ 200000) (ht : 0 ≤ t ∧ t ≤ 1000) (hbd : ∀ i, i < l.length → 0 ≤ (lth l i).n ∧ (lth l i).n ≤ 200000) :
    Calls Try.prog 59 #[v, .int .i64 x, .int .i64 t] w (Gives (.int .i64 (nearest l x t)) w) := by
  obtain ⟨hx0, hx1⟩ := hx
  obtain ⟨ht0, ht1⟩ := ht
  have HBD := Lib.hid hbd
  have HAS := Lib.hid hasc
  have hfl := firstAt_le l x
  obtain ⟨A, hA⟩ : ∃ A, A = firstAt l x := ⟨_, rfl⟩
  have HA := Lib.hid hA.symm
  rw [← hA] at hfl
  clear hbd hA
  have hB1 : Below (w.heap.size + 1) (w.alloc (.cells #[v] 35)) (w.alloc (.cells #[v] 35)) := Below.refl _ _
  have BW := Lib.hid (fun (W : World) (h : Below (w.heap.size + 1) (w.alloc (.cells #[v] 35)) W) => show Below w.heap.size w W from Below.trans (by repeat (first | (with_reducible refine Below.drew ?_) | (with_reducible refine below_drewN ?_ _) | (with_reducible refine Below.alloc ?_ ?_ _) | (with_reducible refine Below.setCell ?_ ?_ _) | (with_reducible assumption) | (with_reducible exact Below.refl _ _) | omega | (simp <;> omega))) (h.mono (by omega)))
  have HBX := Lib.hid (fun (W : World) (h : Below (w.heap.size + 1) (w.alloc (.cells #[v] 35)) W) => show W.cell? ⟨w.heap.size, 0, none⟩ = some v from (h.cell (p := ⟨w.heap.size, 0, none⟩) (by simp)).trans (by simp))
  have HSE := Lib.hid (fun (W : World) (h : Below (w.heap.size + 1) (w.alloc (.cells #[v] 35)) W) => hs.below (BW.out W h) (Nat.le_refl _))
  have HTR := Lib.hid (fun (W1 W2 : World) (h1 : Below (w.heap.size + 1) (w.alloc (.cells #[v] 35)) W1) (h2 : Below W1.heap.size W1 W2) => show Below (w.heap.size + 1) (w.alloc (.cells #[v] 35)) W2 from h1.trans (h2.mono (by have := h1.size; simp at this; omega)))
  have HF := Lib.hid (fun (W : World) (h : Below (w.heap.size + 1) (w.alloc (.cells #[v] 35)) W) (y : Int) => first l v w.heap.size y W (HSE.out W h) (HBX.out W h) (by have := h.size; simp at this; omega) HAS.out hl)
  have HF0 := HF.out _ hB1 x
  rw [HA.out] at HF0
  have HF1 := Lib.hid HF0
  clear HF0
  rcases hs.2 with ⟨hl0, a0, c0, rfl⟩ | ⟨b0, o0, c0, rfl, hnc, hcm, hb0, hcell⟩
  · obtain rfl : A = 0 := by omega
    have HNE := Lib.hid (nearest_none (t := t) (nearL_none HA.out hl0))
    clear hs
    go_enter Try.func59, Try.ntmps59
    go_wp2_with fail
    refine HF1.out.mono ?_
    rintro e w1 ⟨rfl, b1⟩
    have B1 := HTR.out _ _ hB1 b1
    have f0 : ∀ p : Later w1.heap.size w1, p.W.cell? ⟨w.heap.size, 0, none⟩ = some (.slice a0 0 c0) := fun p => HBX.out p.W (HTR.out _ _ B1 p.h)
    clear b1 HF1
    go_wp2_with fail
    refine Later.wp_region_later (w1.heap.size) (by kernel_rfl) (by kernel_rfl) ?_
    repeat (first | go_big_quiet_step ((fail)) | quiet_step ((fail)))
    refine wpQuiet_nil ?_
    rintro w2 ⟨q2, hq2⟩
    have b2 := q2.h
    rw [← hq2] at b2
    clear hq2 q2
    have B2 := HTR.out _ _ B1 b2
    clear b2 f0
    go_wp2
    go_ret
    exact ⟨ret_int HNE.out.symm, BW.out _ B2⟩
  · have HCL := Lib.hid (fun (W : World) (h : Below (w.heap.size + 1) (w.alloc (.cells #[.slice (some ⟨b0, o0, none⟩) l.length c0] 35)) W) (k : Nat) (hk : k < l.length) => show W.cell? ⟨b0, o0 + k * 3 + 2, none⟩ = some (.int .i64 (lth l k).n) by rw [lth_eq hk]; exact (line_cells (w := W) (xs := l) (b := b0) (o := o0) (fun j hj => ((BW.out W h).cell (p := ⟨b0, o0 + j, none⟩) hb0).trans (hcell j hj)) k hk).2.2)
    unfold maxLen at hcm
    clear hs hcell
    obtain ⟨N, hN⟩ : ∃ N, N = l.length := ⟨_, rfl⟩
    have HN := Lib.hid hN
    rw [← hN] at HF1 HF HBX HSE HCL BW HTR hB1 hfl hnc hl ⊢
    have hNl : N ≤ l.length := by omega
    have hNg : l.length ≤ N := by omega
    clear hN
    go_enter Try.func59, Try.ntmps59
    go_wp2_with fail
    refine HF1.out.mono ?_
    rintro e w1 ⟨rfl, b1⟩
    have B1 := HTR.out _ _ hB1 b1
    have hz1 := B1.size
    simp at hz1
    clear b1 HF1
    by_cases hA0 : A = 0
    · subst hA0
      by_cases hN0 : N = 0
      · have HNE := Lib.hid (nearest_none (t := t) (nearL_none HA.out (by omega)))
        subst hN0
        go_wp2_with fail
        have f0 : ∀ p : Later w1.heap.size w1, p.W.cell? ⟨w.heap.size, 0, none⟩ = some (.slice (some ⟨b0, o0, none⟩) 0 c0) := fun p => HBX.out p.W (HTR.out _ _ B1 p.h)
        refine Later.wp_region_later (w1.heap.size) (by kernel_rfl) (by kernel_rfl) ?_
        repeat (first | go_big_quiet_step ((fail)) | quiet_step ((fail)))
        refine wpQuiet_nil ?_
        rintro w2 ⟨q2, hq2⟩
        have b2 := q2.h
        rw [← hq2] at b2
        clear hq2 q2
        have B2 := HTR.out _ _ B1 b2
        clear b2 f0
        go_wp2
        go_ret
        exact ⟨ret_int HNE.out.symm, BW.out _ B2⟩
      · have HNE := Lib.hid (nearL_0 HA.out (by omega))
        have hN1 : (0 : Int) < (N : Int) := by omega
        have hN2 : 0 < N := by omega
        go_wp2_with fail
        have f0 : ∀ p : Later w1.heap.size w1, p.W.cell? ⟨w.heap.size, 0, none⟩ = some (.slice (some ⟨b0, o0, none⟩) N c0) := fun p => HBX.out p.W (HTR.out _ _ B1 p.h)
        refine Later.wp_region_later (w1.heap.size) (by kernel_rfl) (by kernel_rfl) ?_
        repeat (first | go_big_quiet_step ((fail)) | quiet_step ((fail)))
        refine wpQuiet_nil ?_
        rintro w2 ⟨q2, hq2⟩
        have b2 := q2.h
        rw [← hq2] at b2
        clear hq2 q2
        have B2 := HTR.out _ _ B1 b2
        clear b2 f0
        have hbN := HBD.out 0 (by omega)
        obtain ⟨hbN0, hbN1⟩ := hbN
        have HAB := Lib.hid (show off l x 0 = absI ((lth l 0).n - x) from rfl)
        by_cases hfar : t < absI ((lth l 0).n - x)
        · have HR := Lib.hid (nearest_far (t := t) HNE.out (by rw [HAB.out]; exact hfar))
          have z2' := HCL.out w2 B2 0 (by omega)
          have z2 := z2'
          simp only [Nat.zero_mul, Nat.add_zero] at z2
          have zp := HBX.out w2 B2
          clear z2'
          generalize (lth l 0).n = yb at *
          go_wp2_with fail
          (with_reducible refine (iabs _ _ (by omega) (by omega)).mono ?_)
          rintro e w' ⟨rfl, rfl⟩
          go_wp2
          go_ret
          exact ⟨ret_int HR.out.symm, BW.out _ B2⟩
        · have HR := Lib.hid (nearest_near (t := t) HNE.out (by rw [HAB.out]; exact hfar))
          have z2' := HCL.out w2 B2 0 (by omega)
          have z2 := z2'
          simp only [Nat.zero_mul, Nat.add_zero] at z2
          have zp := HBX.out w2 B2
          clear z2'
          generalize (lth l 0).n = yb at *
          go_wp2_with fail
          (with_reducible refine (iabs _ _ (by omega) (by omega)).mono ?_)
          rintro e w' ⟨rfl, rfl⟩
          go_wp2
          go_ret
          exact ⟨ret_int HR.out.symm, BW.out _ B2⟩
    · have hA1 : 1 ≤ A := by omega
      obtain ⟨b, hb⟩ : ∃ b, b = firstAt l (lth l (A - 1)).n := ⟨_, rfl⟩
      have HB := Lib.hid hb.symm
      have hba : b ≤ A - 1 := by rw [hb]; exact first_prev HAS.out HA.out (by omega)
      clear hb
      have y2 := HCL.out w1 B1 (A - 1) (by omega)
      have HF2 := HF.out w1 B1 (lth l (A - 1)).n
      rw [HB.out] at HF2
      have HF3 := Lib.hid HF2
      have yp := HBX.out w1 B1
      have hd : decide ((0 : Int) < (A : Int)) = true := decide_eq_true (by omega)
      have hd2 : decide (0 < A) = true := decide_eq_true (by omega)
      have hd3 : 0 < A := by omega
      have hd4 : (0 : Int) < (A : Int) := by omega
      clear HF2
      generalize hyv : (lth l (A - 1)).n = yv at *
      have HYV := Lib.hid hyv
      clear hyv
      go_wp2_with fail
      refine HF3.out.mono ?_
      rintro e w2 ⟨rfl, b2⟩
      have B2 := HTR.out _ _ B1 b2
      clear b2 HF3 y2 yp
      by_cases hAN : A < N
      · have hAN1 : (A : Int) < (N : Int) := by omega
        have hbA := HBD.out A (by omega)
        have hbb := HBD.out b (by omega)
        have hdb : decide ((b : Int) < 0) = false := decide_eq_false (by omega)
        by_cases hc : (lth l A).n - x < x - (lth l b).n
        · have HNE := Lib.hid (nearL_at (b := b) HA.out (by omega) (by rw [HYV.out]; exact HB.out) (by omega) hc)
          obtain ⟨hbA0, hbA1⟩ := hbA
          obtain ⟨hbb0, hbb1⟩ := hbb
          go_wp2_with fail
          have f0 : ∀ p : Later w2.heap.size w2, p.W.cell? ⟨w.heap.size, 0, none⟩ = some (.slice (some ⟨b0, o0, none⟩) N c0) := fun p => HBX.out p.W (HTR.out _ _ B2 p.h)
          have f1 : ∀ p : Later w2.heap.size w2, p.W.cell? ⟨b0, o0 + A * 3 + 2, none⟩ = some (.int .i64 (lth l A).n) := fun p => HCL.out p.W (HTR.out _ _ B2 p.h) (A) (by omega)
          have f2 : ∀ p : Later w2.heap.size w2, p.W.cell? ⟨b0, o0 + b * 3 + 2, none⟩ = some (.int .i64 (lth l b).n) := fun p => HCL.out p.W (HTR.out _ _ B2 p.h) (b) (by omega)
          refine Later.wp_region_later (w2.heap.size) (by kernel_rfl) (by kernel_rfl) ?_
          repeat (first | go_big_quiet_step ((fail)) | quiet_step ((fail)))
          refine wpQuiet_nil ?_
          rintro w3 ⟨q3, hq3⟩
          have b3 := q3.h
          rw [← hq3] at b3
          clear hq3 q3
          have B3 := HTR.out _ _ B2 b3
          clear b3 f0 f1 f2
          have hbN := HBD.out A (by omega)
          obtain ⟨hbN0, hbN1⟩ := hbN
          have HAB := Lib.hid (show off l x A = absI ((lth l A).n - x) from rfl)
          by_cases hfar : t < absI ((lth l A).n - x)
          · have HR := Lib.hid (nearest_far (t := t) HNE.out (by rw [HAB.out]; exact hfar))
            have z2' := HCL.out w3 B3 A (by omega)
            have z2 := z2'
            have zp := HBX.out w3 B3
            clear z2'
            generalize (lth l A).n = yb at *
            go_wp2_with fail
            (with_reducible refine (iabs _ _ (by omega) (by omega)).mono ?_)
            rintro e w' ⟨rfl, rfl⟩
            go_wp2
            go_ret
            exact ⟨ret_int HR.out.symm, BW.out _ B3⟩
          · have HR := Lib.hid (nearest_near (t := t) HNE.out (by rw [HAB.out]; exact hfar))
            have z2' := HCL.out w3 B3 A (by omega)
            have z2 := z2'
            have zp := HBX.out w3 B3
            clear z2'
            generalize (lth l A).n = yb at *
            go_wp2_with fail
            (with_reducible refine (iabs _ _ (by omega) (by omega)).mono ?_)
            rintro e w' ⟨rfl, rfl⟩
            go_wp2
            go_ret
            exact ⟨ret_int HR.out.symm, BW.out _ B3⟩
        · have HNE := Lib.hid (nearL_b (b := b) HA.out (by omega) (by rw [HYV.out]; exact HB.out) (fun g => hc g.2))
          obtain ⟨hbA0, hbA1⟩ := hbA
          obtain ⟨hbb0, hbb1⟩ := hbb
          have hcd : decide ((lth l A).n - x < x - (lth l b).n) = false := by simpa using hc
          go_wp2_with fail
          have f0 : ∀ p : Later w2.heap.size w2, p.W.cell? ⟨w.heap.size, 0, none⟩ = some (.slice (some ⟨b0, o0, none⟩) N c0) := fun p => HBX.out p.W (HTR.out _ _ B2 p.h)
          have f1 : ∀ p : Later w2.heap.size w2, p.W.cell? ⟨b0, o0 + A * 3 + 2, none⟩ = some (.int .i64 (lth l A).n) := fun p => HCL.out p.W (HTR.out _ _ B2 p.h) (A) (by omega)
          have f2 : ∀ p : Later w2.heap.size w2, p.W.cell? ⟨b0, o0 + b * 3 + 2, none⟩ = some (.int .i64 (lth l b).n) := fun p => HCL.out p.W (HTR.out _ _ B2 p.h) (b) (by omega)
          refine Later.wp_region_later (w2.heap.size) (by kernel_rfl) (by kernel_rfl) ?_
          repeat (first | go_big_quiet_step ((fail)) | quiet_step ((fail)))
          refine wpQuiet_nil ?_
          rintro w3 ⟨q3, hq3⟩
          have b3 := q3.h
          rw [← hq3] at b3
          clear hq3 q3
          have B3 := HTR.out _ _ B2 b3
          clear b3 f0 f1 f2 hcd
          have hbN := HBD.out b (by omega)
          obtain ⟨hbN0, hbN1⟩ := hbN
          have HAB := Lib.hid (show off l x b = absI ((lth l b).n - x) from rfl)
          by_cases hfar : t < absI ((lth l b).n - x)
          · have HR := Lib.hid (nearest_far (t := t) HNE.out (by rw [HAB.out]; exact hfar))
            have z2' := HCL.out w3 B3 b (by omega)
            have z2 := z2'
            have zp := HBX.out w3 B3
            clear z2'
            generalize (lth l b).n = yb at *
            go_wp2_with fail
            (with_reducible refine (iabs _ _ (by omega) (by omega)).mono ?_)
            rintro e w' ⟨rfl, rfl⟩
            go_wp2
            go_ret
            exact ⟨ret_int HR.out.symm, BW.out _ B3⟩
          · have HR := Lib.hid (nearest_near (t := t) HNE.out (by rw [HAB.out]; exact hfar))
            have z2' := HCL.out w3 B3 b (by omega)
            have z2 := z2'
            have zp := HBX.out w3 B3
            clear z2'
            generalize (lth l b).n = yb at *
            go_wp2_with fail
            (with_reducible refine (iabs _ _ (by omega) (by omega)).mono ?_)
            rintro e w' ⟨rfl, rfl⟩
            go_wp2
            go_ret
            exact ⟨ret_int HR.out.symm, BW.out _ B3⟩
      · have HNE := Lib.hid (nearL_b (b := b) HA.out (by omega) (by rw [HYV.out]; exact HB.out) (fun g => by have := g.1; omega))
        have hAN1 : decide ((A : Int) < (N : Int)) = false := decide_eq_false (by omega)
        have hAN2 : decide (A < N) = false := decide_eq_false (by omega)
        go_wp2_with fail
        have f0 : ∀ p : Later w2.heap.size w2, p.W.cell? ⟨w.heap.size, 0, none⟩ = some (.slice (some ⟨b0, o0, none⟩) N c0) := fun p => HBX.out p.W (HTR.out _ _ B2 p.h)
        refine Later.wp_region_later (w2.heap.size) (by kernel_rfl) (by kernel_rfl) ?_
        repeat (first | go_big_quiet_step ((fail)) | quiet_step ((fail)))
        refine wpQuiet_nil ?_
        rintro w3 ⟨q3, hq3⟩
        have b3 := q3.h
        rw [← hq3] at b3
        clear hq3 q3
        have B3 := HTR.out _ _ B2 b3
        clear b3 f0 hAN1 hAN2
        have hbN := HBD.out b (by omega)
        obtain ⟨hbN0, hbN1⟩ := hbN
        have HAB := Lib.hid (show off l x b = absI ((lth l b).n - x) from rfl)
        by_cases hfar : t < absI ((lth l b).n - x)
        · have HR := Lib.hid (nearest_far (t := t) HNE.out (by rw [HAB.out]; exact hfar))
          have z2' := HCL.out w3 B3 b (by omega)
          have z2 := z2'
          have zp := HBX.out w3 B3
          clear z2'
          generalize (lth l b).n = yb at *
          go_wp2_with fail
          (with_reducible refine (iabs _ _ (by omega) (by omega)).mono ?_)
          rintro e w' ⟨rfl, rfl⟩
          go_wp2
          go_ret
          exact ⟨ret_int HR.out.symm, BW.out _ B3⟩
        · have HR := Lib.hid (nearest_near (t := t) HNE.out (by rw [HAB.out]; exact hfar))
          have z2' := HCL.out w3 B3 b (by omega)
          have z2 := z2'
          have zp := HBX.out w3 B3
          clear z2'
          generalize (lth l b).n = yb at *
          go_wp2_with fail
          (with_reducible refine (iabs _ _ (by omega) (by omega)).mono ?_)
          rintro e w' ⟨rfl, rfl⟩
          go_wp2
          go_ret
          exact ⟨ret_int HR.out.symm, BW.out _ B3⟩

end Go.Proofs.Ytgkgdnocleajcaa.Nearest
