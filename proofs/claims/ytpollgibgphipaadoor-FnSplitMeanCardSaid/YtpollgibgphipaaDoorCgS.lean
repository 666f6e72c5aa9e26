/-
  Coupling coefficients with the angular momentum 1: contracts of the reference's SpinHas, l21Ok, CoupleSum and Clebsch.
-/
import Derived.Test.YtpollgibgphipaaDoorRoot
import Derived.Test.YtpollgibgphipaaDoorFact
import Derived.Test.YtpollgibgphipaaDoorSplitP
namespace Go.Proofs.YtpollgibgphipaaDoor.Cg
open Go.RowKit Go.Proofs.YtpollgibgphipaaDoor.RatP Go.Proofs.YtpollgibgphipaaDoor.Rat Go.Proofs.YtpollgibgphipaaDoor.ChoP Go.Proofs.YtpollgibgphipaaDoor.Fact Go.Proofs.YtpollgibgphipaaDoor.Root Go.Proofs.YtpollgibgphipaaDoor.SplitPlain Go.Proofs.YtpollgibgphipaaDoor.SplitP Go.Proofs.YtpollgibgphipaaDoor.Spin Go.Proofs.YtpollgibgphipaaDoor.Row Go.Proofs.YtpollgibgphipaaDoor.Later
set_option linter.unusedVariables false
set_option linter.unusedSimpArgs false

/-- a line's angular momenta and one of its components -/
structure Cg (x y u l : Int) : Prop where
  hx : 0 ≤ x ∧ x ≤ 6
  hy : 0 ≤ y ∧ y ≤ 6
  ht : tri y 2 x = true
  he : (u, l) ∈ comps x y
theorem Cg.bd {x y u l : Int} (C : Cg x y u l) : (-6 ≤ u ∧ u ≤ 6) ∧ (-6 ≤ l ∧ l ≤ 6) ∧ (-x ≤ u ∧ u ≤ x ∧ (u - x) % 2 = 0) ∧ (-y ≤ l ∧ l ≤ y ∧ (l - y) % 2 = 0) ∧ (u - l = -2 ∨ u - l = 0 ∨ u - l = 2) :=
  of_decide_eq_true (every_at comps_bd C.hx C.hy C.ht C.he)
theorem Cg.str {x y u l : Int} (C : Cg x y u l) : (0 ≤ str420 x y u l ∧ str420 x y u l ≤ 420) ∧ str420 x y u l * cden y 2 x l (u - l) = csum y 2 x l (u - l) * csum y 2 x l (u - l) * cnum y 2 x * 420 ∧ (1 ≤ cden y 2 x l (u - l) ∧ cden y 2 x l (u - l) ≤ 1000000) ∧ (1 ≤ cnum y 2 x ∧ cnum y 2 x ≤ 1000000) ∧ (-1000 ≤ csum y 2 x l (u - l) ∧ csum y 2 x l (u - l) ≤ 1000) :=
  by
  have h := of_decide_eq_true (every_at str_all C.hx C.hy C.ht C.he)
  dsimp only at h
  exact h
theorem Cg.tri {x y u l : Int} (C : Cg x y u l) : (x + y) % 2 = 0 ∧ y ≤ x + 2 ∧ x ≤ y + 2 ∧ 2 ≤ x + y := by
  have h := tri_true.1 C.ht
  omega
/-- the coefficient is told, and its square is the strength -/
theorem Cg.root {x y u l : Int} (C : Cg x y u l) : rootR (csum y 2 x l (u - l)) (cnum y 2 x) (cden y 2 x l (u - l)) = ⟨cmpI (csum y 2 x l (u - l)) 0, (stR x y u l).n, (stR x y u l).d, true⟩ := by
  have h := st_calc C.hx C.hy C.ht C.he
  have h2 := C.str
  have e : mkR (csum y 2 x l (u - l) * csum y 2 x l (u - l) * cnum y 2 x) (cden y 2 x l (u - l)) = stR x y u l := h
  have hok : (stR x y u l).ok = true := by
    unfold stR
    rw [mk_of ⟨by omega, by omega⟩]
  unfold rootR
  rw [e, if_pos hok]

theorem choI_bds : ((List.range 13).all fun n => (List.range 13).all fun k => decide (bin n k ≤ 1000)) = true := by decide +kernel
theorem choI_bd {n k : Int} (h0 : 0 ≤ n) (h1 : n ≤ 12) : 0 ≤ choI n k ∧ choI n k ≤ 1000 := by
  unfold choI
  rw [if_neg (by omega)]
  split
  · omega
  · have h := of_decide_eq_true (List.all_eq_true.1 (List.all_eq_true.1 choI_bds n.toNat (List.mem_range.2 (by omega))) k.toNat (List.mem_range.2 (by omega)))
    omega
/-- a term of the sum -/
theorem term_bd {p q r : Int} (hp : 0 ≤ p ∧ p ≤ 1000) (hq : 0 ≤ q ∧ q ≤ 1000) (hr : 0 ≤ r ∧ r ≤ 1000) : (0 ≤ p * q ∧ p * q ≤ 1000000) ∧ (0 ≤ p * q * r ∧ p * q * r ≤ 1000000000) := by
  have h1 := Int.mul_nonneg hp.1 hq.1
  have h2 := Int.mul_le_mul hp.2 hq.2 hq.1 (by omega)
  have h3 := Int.mul_nonneg h1 hr.1
  have h4 := Int.mul_le_mul (a := p * q) (b := r) (c := 1000000) (d := 1000) (by omega) hr.2 hr.1 (by omega)
  omega
theorem cterm_bd {a c m n : Int} (ha : 0 ≤ a ∧ a ≤ 6) (hc : 0 ≤ c ∧ c ≤ 6) (h1 : a ≤ c + 2) (h2 : c ≤ a + 2) (h3 : 2 ≤ a + c) (k : Nat) : -1000000000 ≤ cterm a 2 c m n k ∧ cterm a 2 c m n k ≤ 1000000000 := by
  have b1 := choI_bd (n := (a + 2 - c) / 2) (k := k) (by omega) (by omega)
  have b2 := choI_bd (n := (a - 2 + c) / 2) (k := (a - m) / 2 - k) (by omega) (by omega)
  have b3 := choI_bd (n := (2 - a + c) / 2) (k := (2 + n) / 2 - k) (by omega) (by omega)
  unfold cterm
  have h := term_bd b1 b2 b3
  split
  · rw [Int.mul_assoc, Int.mul_assoc, ← Int.mul_assoc (choI _ _)]; omega
  · rw [Int.one_mul]; omega
theorem csumN_bd {a c m n : Int} (ha : 0 ≤ a ∧ a ≤ 6) (hc : 0 ≤ c ∧ c ≤ 6) (h1 : a ≤ c + 2) (h2 : c ≤ a + 2) (h3 : 2 ≤ a + c) (k : Nat) : -1000000000 * (k : Int) ≤ csumN a 2 c m n k ∧ csumN a 2 c m n k ≤ 1000000000 * (k : Int) := by
  induction k with
  | zero => simp [csumN]
  | succ k ih =>
    have := cterm_bd (m := m) (n := n) ha hc h1 h2 h3 k
    unfold csumN
    omega

set_option maxRecDepth 100000 in
set_option maxHeartbeats 1000000 in
theorem sSpinHas_yes (j m : Int) (w : World) (hj : 0 ≤ j ∧ j ≤ 24) (hm : -j ≤ m ∧ m ≤ j ∧ (m - j) % 2 = 0) :
    Calls Tryd.prog 73 #[.int .i64 j, .int .i64 m] w fun e w' => e = .returned (.bool true) ∧ w = w' := by
  have hS := fun W => sSpinValid j W
  rw [spinOk_true.2 hj] at hS
  have hI := fun W => l6In m (-j) j W
  rw [inB_true.2 ⟨hm.1, hm.2.1⟩] at hI
  have HS := Lib.hid hS
  have HI := Lib.hid hI
  clear hS hI
  obtain ⟨j0, j1⟩ := hj
  obtain ⟨m0, m1, m2⟩ := hm
  have e : ((j + m) % 2 == 0) = true := by rw [beq_iff_eq]; omega
  have p : 0 ≤ j + m := by omega
  go_enter Tryd.func73, Tryd.ntmps73
  go_wp2_with (first | (go_at_call 55; (with_reducible refine (HS.out _).mono ?_); rintro e w' ⟨rfl, rfl⟩) | (go_at_call 66; (with_reducible refine (HI.out _).mono ?_); rintro e w' ⟨rfl, rfl⟩))
  go_ret
  exact ⟨rfl, rfl⟩
set_option maxRecDepth 100000 in
set_option maxHeartbeats 1000000 in
theorem l21Ok (x y u l : Int) (C : Cg x y u l) (w : World) :
    Calls Tryd.prog 72 #[.int .i64 y, .int .i64 2, .int .i64 x, .int .i64 l, .int .i64 (u - l)] w fun e w' => e = .returned (.bool true) ∧ w = w' := by
  have hb := C.bd
  have hI1 := fun W => l6In y 0 6 W
  rw [inB_true.2 C.hy] at hI1
  have hI2 := fun W => l6In 2 0 6 W
  rw [inB_true.2 (by omega)] at hI2
  have hI3 := fun W => l6In x 0 6 W
  rw [inB_true.2 C.hx] at hI3
  have hT := fun W => sSpinTriangle y 2 x W
  rw [C.ht] at hT
  have hH1 := fun W => sSpinHas_yes y l W (by have := C.hy; omega) ⟨by omega, by omega, by omega⟩
  have hH2 := fun W => sSpinHas_yes 2 (u - l) W (by omega) ⟨by omega, by omega, by omega⟩
  have H1 := Lib.hid hI1
  have H2 := Lib.hid hI2
  have H3 := Lib.hid hI3
  have H4 := Lib.hid hT
  have H5 := Lib.hid hH1
  have H6 := Lib.hid hH2
  clear hI1 hI2 hI3 hT hH1 hH2 C hb
  go_enter Tryd.func72, Tryd.ntmps72
  go_wp2_with fail
  (with_reducible refine (H1.out _).mono ?_)
  rintro e w' ⟨rfl, rfl⟩
  go_wp2_with fail
  (with_reducible refine (H2.out _).mono ?_)
  rintro e w' ⟨rfl, rfl⟩
  go_wp2_with fail
  (with_reducible refine (H3.out _).mono ?_)
  rintro e w' ⟨rfl, rfl⟩
  go_wp2_with fail
  (with_reducible refine (H4.out _).mono ?_)
  rintro e w' ⟨rfl, rfl⟩
  go_wp2_with fail
  (with_reducible refine (H5.out _).mono ?_)
  rintro e w' ⟨rfl, rfl⟩
  go_wp2_with fail
  (with_reducible refine (H6.out _).mono ?_)
  rintro e w' ⟨rfl, rfl⟩
  go_wp2
  go_ret
  exact ⟨rfl, rfl⟩
theorem csum_step {y x u l : Int} {k : Nat} : csumN y 2 x l (u - l) (k + 1) = csumN y 2 x l (u - l) k + cterm y 2 x l (u - l) k := rfl
set_option maxRecDepth 100000 in
set_option maxHeartbeats 2000000 in
theorem sCoupleSum (x y u l : Int) (C : Cg x y u l) (w : World) :
    Calls Tryd.prog 76 #[.int .i64 y, .int .i64 2, .int .i64 x, .int .i64 l, .int .i64 (u - l)] w fun e w' => e = .returned (.int .i64 (csum y 2 x l (u - l))) ∧ w = w' := by
  have hb := C.bd
  have ht := C.tri
  have hx := C.hx
  have hy := C.hy
  have HO := Lib.hid (fun W => l21Ok x y u l C W)
  have HS := Lib.hid (fun W => sSpinHas_yes x u W (by omega) ⟨by omega, by omega, by omega⟩)
  have hlu : l + (u - l) = u := by omega
  obtain ⟨X, hX⟩ : ∃ X : Nat, (y + 2 - x) / 2 = (X : Int) := ⟨((y + 2 - x) / 2).toNat, by omega⟩
  have hX4 : X ≤ 4 := by omega
  have HX := Lib.hid hX
  have hcs : csum y 2 x l (u - l) = csumN y 2 x l (u - l) (X + 1) := by unfold csum; rw [hX]; congr 1
  have HCS := Lib.hid hcs
  have HB := Lib.hid (fun k => csumN_bd (a := y) (c := x) (m := l) (n := u - l) hy hx (by omega) (by omega) (by omega) k)
  have HT := Lib.hid (fun k => cterm_bd (a := y) (c := x) (m := l) (n := u - l) hy hx (by omega) (by omega) (by omega) k)
  have hc1 := fun k W (hk : 0 ≤ k ∧ k ≤ 10) => sChoose ((y + 2 - x) / 2) k W (by omega) (by omega) (by omega) (by omega)
  have hc2 := fun k W (hk : 0 ≤ k ∧ k ≤ 10) => sChoose ((y - 2 + x) / 2) ((y - l) / 2 - k) W (by omega) (by omega) (by omega) (by omega)
  have hc3 := fun k W (hk : 0 ≤ k ∧ k ≤ 10) => sChoose ((2 - y + x) / 2) ((2 + (u - l)) / 2 - k) W (by omega) (by omega) (by omega) (by omega)
  have b1 := fun k => choI_bd (n := (y + 2 - x) / 2) (k := k) (by omega) (by omega)
  have b2 := fun k => choI_bd (n := (y - 2 + x) / 2) (k := k) (by omega) (by omega)
  have b3 := fun k => choI_bd (n := (2 - y + x) / 2) (k := k) (by omega) (by omega)
  have HB1 := Lib.hid b1
  have HB2 := Lib.hid b2
  have HB3 := Lib.hid b3
  have HC1 := Lib.hid hc1
  have HC2 := Lib.hid hc2
  have HC3 := Lib.hid hc3
  have HD := Lib.hid (fun k => csum_step (y := y) (x := x) (u := u) (l := l) (k := k))
  obtain ⟨hx0, hx1⟩ := hx
  obtain ⟨hy0, hy1⟩ := hy
  have p1 : 0 ≤ y + 2 - x := by omega
  have p2 : 0 ≤ y - 2 + x := by omega
  have p3 : 0 ≤ 2 - y + x := by omega
  have p4 : 0 ≤ y - l ∧ y - l ≤ 12 := by omega
  have p5 : 0 ≤ 2 + (u - l) ∧ 2 + (u - l) ≤ 4 := by omega
  obtain ⟨p41, p42⟩ := p4
  obtain ⟨p51, p52⟩ := p5
  have p6 : -2 ≤ u - l ∧ u - l ≤ 2 := by omega
  obtain ⟨p61, p62⟩ := p6
  clear hb hX hcs b1 b2 b3 hc1 hc2 hc3 C ht
  go_enter Tryd.func76, Tryd.ntmps76
  go_wp2_with fail
  (with_reducible refine (HO.out _).mono ?_)
  rintro e w' ⟨rfl, rfl⟩
  go_wp2_with fail
  (with_reducible refine (HS.out _).mono ?_)
  rintro e w' ⟨rfl, rfl⟩
  go_wp2
  go_loopw [14, 15] (fun s k wr => ∃ m : Nat, m ≤ X + 1 ∧ s = .int .i64 (csumN y 2 x l (u - l) m) ∧ k = .int .i64 m ∧ w = wr) (fun _ k _ => X + 1 - (intOf k).toNat)
  case atStart => exact ⟨0, by omega, rfl, rfl, rfl⟩
  case round =>
    obtain ⟨m, hm, rfl, rfl, rfl⟩ := hrel
    have hs := HB.out m
    by_cases hlt : m ≤ X
    · have hltI : decide ((m : Int) ≤ (y + 2 - x) / 2) = true := by rw [HX.out]; exact decide_eq_true (by omega)
      have hd := HD.out m
      have ht := HT.out m
      have a1 := HB1.out m
      have a2 := HB2.out ((y - l) / 2 - m)
      have a3 := HB3.out ((2 + (u - l)) / 2 - m)
      have tb := term_bd a1 a2 a3
      have c1 := fun W => HC1.out m W (by omega)
      have c2 := fun W => HC2.out m W (by omega)
      have c3 := fun W => HC3.out m W (by omega)
      have hq : (0 : Int) ≤ (y - l) / 2 ∧ (y - l) / 2 ≤ 6 := by omega
      have hq2 : (0 : Int) ≤ (2 + (u - l)) / 2 ∧ (2 + (u - l)) / 2 ≤ 2 := by omega
      unfold cterm at hd ht
      generalize choI ((y + 2 - x) / 2) m = A at *
      generalize choI ((y - 2 + x) / 2) ((y - l) / 2 - m) = B at *
      generalize choI ((2 - y + x) / 2) ((2 + (u - l)) / 2 - m) = D at *
      have K1 := Lib.hid c1
      have K2 := Lib.hid c2
      have K3 := Lib.hid c3
      have HE := Lib.hid hd
      obtain ⟨⟨t1, t2⟩, t3, t4⟩ := tb
      obtain ⟨s1, s2⟩ := hs
      obtain ⟨q1, q2⟩ := hq
      obtain ⟨q3, q4⟩ := hq2
      obtain ⟨a11, a12⟩ := a1
      obtain ⟨a21, a22⟩ := a2
      obtain ⟨a31, a32⟩ := a3
      have s3 : -10000000000 ≤ csumN y 2 x l (u - l) m := by omega
      have s4 : csumN y 2 x l (u - l) m ≤ 10000000000 := by omega
      generalize csumN y 2 x l (u - l) m = S at *
      clear c1 c2 c3 hd ht s1 s2
      by_cases hodd : m % 2 = 1
      · have ho : ((m : Int) % 2 == 1) = true := by rw [beq_iff_eq]; omega
        have HF := Lib.hid (show S + (0 - A * B * D) = csumN y 2 x l (u - l) (m + 1) by
          rw [HE.out, if_pos hodd]
          simp only [Int.neg_mul, Int.one_mul]; omega)
        clear hodd
        go_wp2_with (first | (go_at_call 74; first | ((with_reducible refine (K1.out _).mono ?_); rintro e w' ⟨rfl, rfl⟩) | ((with_reducible refine (K2.out _).mono ?_); rintro e w' ⟨rfl, rfl⟩) | ((with_reducible refine (K3.out _).mono ?_); rintro e w' ⟨rfl, rfl⟩)))
        go_roundw
        case rel => exact ⟨m + 1, by omega, by rw [← HF.out, Int.zero_sub], by go_num, trivial⟩
        case measure => simp [intOf]; omega
      · have ho : ((m : Int) % 2 == 1) = false := by rw [beq_eq_false_iff_ne]; omega
        have HF := Lib.hid (show S + A * B * D = csumN y 2 x l (u - l) (m + 1) by
          rw [HE.out, if_neg hodd]
          simp only [Int.one_mul])
        clear hodd
        go_wp2_with (first | (go_at_call 74; first | ((with_reducible refine (K1.out _).mono ?_); rintro e w' ⟨rfl, rfl⟩) | ((with_reducible refine (K2.out _).mono ?_); rintro e w' ⟨rfl, rfl⟩) | ((with_reducible refine (K3.out _).mono ?_); rintro e w' ⟨rfl, rfl⟩)))
        go_roundw
        case rel => exact ⟨m + 1, by omega, by rw [← HF.out], by go_num, trivial⟩
        case measure => simp [intOf]; omega
    · obtain rfl : m = X + 1 := by omega
      have hltI : decide (((X + 1 : Nat) : Int) ≤ (y + 2 - x) / 2) = false := by rw [HX.out]; exact decide_eq_false (by omega)
      have hltJ : decide ((X : Int) + 1 ≤ (y + 2 - x) / 2) = false := by rw [HX.out]; exact decide_eq_false (by omega)
      go_wp2
      go_ret
      exact ⟨ret_int HCS.out.symm, rfl⟩
theorem four_bd {p q r s : Int} (hp : 0 ≤ p ∧ p ≤ 1000) (hq : 0 ≤ q ∧ q ≤ 1000) (hr : 0 ≤ r ∧ r ≤ 1000) (hs : 0 ≤ s ∧ s ≤ 1000) : 0 ≤ p * q * r * s ∧ p * q * r * s ≤ 1000000000000 := by
  have h := (term_bd hp hq hr).2
  have h3 := Int.mul_nonneg h.1 hs.1
  have h4 := Int.mul_le_mul (a := p * q * r) (b := s) (c := 1000000000) (d := 1000) (by omega) hs.2 hs.1 (by omega)
  omega
set_option maxRecDepth 100000 in
set_option maxHeartbeats 2000000 in
theorem sClebsch (x y u l : Int) (C : Cg x y u l) (w : World) :
    Calls Tryd.prog 59 #[.int .i64 y, .int .i64 2, .int .i64 x, .int .i64 l, .int .i64 (u - l)] w (Gives (.tuple #[.agg #[.int .i64 (cmpI (csum y 2 x l (u - l)) 0), .int .i64 (stR x y u l).n, .int .i64 (stR x y u l).d], .bool true]) w) := by
  have hb := C.bd
  have ht := C.tri
  have hx := C.hx
  have hy := C.hy
  have hst := C.str
  have HO := Lib.hid (fun W => l21Ok x y u l C W)
  have HS := Lib.hid (fun W => sSpinHas_yes x u W (by omega) ⟨by omega, by omega, by omega⟩)
  have HCS := Lib.hid (fun W => sCoupleSum x y u l C W)
  have hR := fun W => sRootOf (csum y 2 x l (u - l)) (cnum y 2 x) (cden y 2 x l (u - l)) W (by omega) (by omega) (by omega)
  rw [C.root] at hR
  unfold rtV at hR
  have hlu : l + (u - l) = u := by omega
  have hc1 := fun W => sChoose y ((y + 2 - x) / 2) W (by omega) (by omega) (by omega) (by omega)
  have hc2 := fun W => sChoose 2 ((y + 2 - x) / 2) W (by omega) (by omega) (by omega) (by omega)
  have hc3 := fun W => sChoose ((y + 2 + x) / 2 + 1) ((y + 2 - x) / 2) W (by omega) (by omega) (by omega) (by omega)
  have hc4 := fun W => sChoose y ((y - l) / 2) W (by omega) (by omega) (by omega) (by omega)
  have hc5 := fun W => sChoose 2 ((2 - (u - l)) / 2) W (by omega) (by omega) (by omega) (by omega)
  have hc6 := fun W => sChoose x ((x - l - (u - l)) / 2) W (by omega) (by omega) (by omega) (by omega)
  have b1 := choI_bd (n := y) (k := (y + 2 - x) / 2) (by omega) (by omega)
  have b2 := choI_bd (n := 2) (k := (y + 2 - x) / 2) (by omega) (by omega)
  have b3 := choI_bd (n := (y + 2 + x) / 2 + 1) (k := (y + 2 - x) / 2) (by omega) (by omega)
  have b4 := choI_bd (n := y) (k := (y - l) / 2) (by omega) (by omega)
  have b5 := choI_bd (n := 2) (k := (2 - (u - l)) / 2) (by omega) (by omega)
  have b6 := choI_bd (n := x) (k := (x - l - (u - l)) / 2) (by omega) (by omega)
  have m1 := (term_bd b1 b2 b2).1
  have m2 := (term_bd b3 b4 b5)
  have m3 := four_bd b3 b4 b5 b6
  have p1 : 0 ≤ y + 2 - x := by omega
  have p2 : 0 ≤ y + 2 + x := by omega
  have p4 : 0 ≤ y - l ∧ y - l ≤ 12 := by omega
  have p5 : 0 ≤ 2 - (u - l) ∧ 2 - (u - l) ≤ 4 := by omega
  have p6 : -2 ≤ u - l ∧ u - l ≤ 2 := by omega
  have p7 : 0 ≤ x - l - (u - l) ∧ x - l - (u - l) ≤ 12 := by omega
  have p8 : -12 ≤ x - l ∧ x - l ≤ 12 := by omega
  unfold cnum cden at hR
  generalize choI y ((y + 2 - x) / 2) = c1 at *
  generalize choI 2 ((y + 2 - x) / 2) = c2 at *
  generalize choI ((y + 2 + x) / 2 + 1) ((y + 2 - x) / 2) = c3 at *
  generalize choI y ((y - l) / 2) = c4 at *
  generalize choI 2 ((2 - (u - l)) / 2) = c5 at *
  generalize choI x ((x - l - (u - l)) / 2) = c6 at *
  generalize csum y 2 x l (u - l) = cs at *
  generalize cmpI cs 0 = sg at *
  generalize stR x y u l = sr at *
  obtain ⟨sn, sd, sk⟩ := sr
  have H1 := Lib.hid hc1
  have H2 := Lib.hid hc2
  have H3 := Lib.hid hc3
  have H4 := Lib.hid hc4
  have H5 := Lib.hid hc5
  have H6 := Lib.hid hc6
  have HR := Lib.hid hR
  obtain ⟨hx0, hx1⟩ := hx
  obtain ⟨hy0, hy1⟩ := hy
  obtain ⟨p41, p42⟩ := p4
  obtain ⟨p51, p52⟩ := p5
  obtain ⟨p61, p62⟩ := p6
  obtain ⟨p71, p72⟩ := p7
  obtain ⟨p81, p82⟩ := p8
  obtain ⟨b11, b12⟩ := b1
  obtain ⟨b21, b22⟩ := b2
  obtain ⟨b31, b32⟩ := b3
  obtain ⟨b41, b42⟩ := b4
  obtain ⟨b51, b52⟩ := b5
  obtain ⟨b61, b62⟩ := b6
  obtain ⟨m11, m12⟩ := m1
  obtain ⟨⟨m21, m22⟩, m23, m24⟩ := m2
  obtain ⟨m31, m32⟩ := m3
  have hd1 : 0 ≤ (y + 2 + x) / 2 ∧ (y + 2 + x) / 2 ≤ 7 := by omega
  obtain ⟨hd11, hd12⟩ := hd1
  clear hc1 hc2 hc3 hc4 hc5 hc6 hR hb ht C hst
  go_enter Tryd.func59, Tryd.ntmps59
  go_wp2_with fail
  (with_reducible refine (HO.out _).mono ?_)
  rintro e w' ⟨rfl, rfl⟩
  go_wp2_with fail
  (with_reducible refine (HS.out _).mono ?_)
  rintro e w' ⟨rfl, rfl⟩
  go_wp2_with (first | (go_at_call 74; first | ((with_reducible refine (H1.out _).mono ?_); rintro e w' ⟨rfl, rfl⟩) | ((with_reducible refine (H2.out _).mono ?_); rintro e w' ⟨rfl, rfl⟩) | ((with_reducible refine (H3.out _).mono ?_); rintro e w' ⟨rfl, rfl⟩) | ((with_reducible refine (H4.out _).mono ?_); rintro e w' ⟨rfl, rfl⟩) | ((with_reducible refine (H5.out _).mono ?_); rintro e w' ⟨rfl, rfl⟩) | ((with_reducible refine (H6.out _).mono ?_); rintro e w' ⟨rfl, rfl⟩)) | (go_at_call 76; (with_reducible refine (HCS.out _).mono ?_); rintro e w' ⟨rfl, rfl⟩))
  go_wp2_with fail
  (with_reducible refine (HR.out _).mono ?_)
  rintro e w1 ⟨rfl, b1⟩
  have hz1 := b1.size
  obtain ⟨hc1, hf1⟩ := bcell b1
  have B1 : Below w.heap.size w w1 := Below.trans (by repeat (first | (with_reducible refine Below.drew ?_) | (with_reducible refine below_drewN ?_ _) | (with_reducible refine Below.alloc ?_ ?_ _) | (with_reducible refine Below.setCell ?_ ?_ _) | (with_reducible assumption) | (with_reducible exact Below.refl _ _) | omega | (simp <;> omega))) (b1.mono (by first | omega | (simp <;> omega)))
  (try simp at hz1)
  have hy1 : w.heap.size < w1.heap.size := by omega
  clear b1
  have kc1_0_0 : w1.cell? ⟨w.heap.size, 0, none⟩ = some (.int .i64 0) := (hc1 (w.heap.size) 0 (by first | omega | (simp <;> omega))).trans (by first | (simp; done) | (simp [*]; done) | (simp [*, World.cell?_alloc_at, World.cell?_alloc_past, World.cell?_alloc_lt, lt2, lt3, lt4]; done))
  have kc1_1_0 : w1.cell? ⟨w.heap.size, 1, none⟩ = some (.int .i64 0) := (hc1 (w.heap.size) 1 (by first | omega | (simp <;> omega))).trans (by first | (simp; done) | (simp [*]; done) | (simp [*, World.cell?_alloc_at, World.cell?_alloc_past, World.cell?_alloc_lt, lt2, lt3, lt4]; done))
  have kc1_2_0 : w1.cell? ⟨w.heap.size, 2, none⟩ = some (.int .i64 0) := (hc1 (w.heap.size) 2 (by first | omega | (simp <;> omega))).trans (by first | (simp; done) | (simp [*]; done) | (simp [*, World.cell?_alloc_at, World.cell?_alloc_past, World.cell?_alloc_lt, lt2, lt3, lt4]; done))
  have kf1_0_0 : w1.frozen? ⟨w.heap.size, 0, none⟩ = false := (hf1 (w.heap.size) 0 (by first | omega | (simp <;> omega))).trans (by first | (simp; done) | (simp [*]; done) | (simp [*, World.frozen?_alloc_at, World.frozen?_alloc_past, lt2, lt3, lt4]; done))
  have kf1_1_0 : w1.frozen? ⟨w.heap.size, 1, none⟩ = false := (hf1 (w.heap.size) 1 (by first | omega | (simp <;> omega))).trans (by first | (simp; done) | (simp [*]; done) | (simp [*, World.frozen?_alloc_at, World.frozen?_alloc_past, lt2, lt3, lt4]; done))
  have kf1_2_0 : w1.frozen? ⟨w.heap.size, 2, none⟩ = false := (hf1 (w.heap.size) 2 (by first | omega | (simp <;> omega))).trans (by first | (simp; done) | (simp [*]; done) | (simp [*, World.frozen?_alloc_at, World.frozen?_alloc_past, lt2, lt3, lt4]; done))
  go_wp2
  refine bodyPost_ret (v := .tuple #[.agg #[.int .i64 sg, .int .i64 sn, .int .i64 sd], .bool true]) (by simp [results, Tryd.results59, go_sem, *, lt2, lt3, lt4, lt5, lt6]) rfl ⟨rfl, (by repeat (first | (with_reducible refine Below.drew ?_) | (with_reducible refine below_drewN ?_ _) | (with_reducible refine Below.alloc ?_ ?_ _) | (with_reducible refine Below.setCell ?_ ?_ _) | (with_reducible assumption) | (with_reducible exact Below.refl _ _) | omega | (simp <;> omega)))⟩
end Go.Proofs.YtpollgibgphipaaDoor.Cg
