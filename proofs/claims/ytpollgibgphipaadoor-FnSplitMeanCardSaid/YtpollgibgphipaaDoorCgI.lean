/-
  Coupling coefficients with the angular momentum 1: contracts of the program's SpinHas, coupleValid, CoupleSum and Clebsch.
-/
import Derived.Test.YtpollgibgphipaaDoorCgS
import Derived.Test.YtpollgibgphipaaDoorChoI
namespace Go.Proofs.YtpollgibgphipaaDoor.CgI
open Go.RowKit Go.Proofs.YtpollgibgphipaaDoor.RatP Go.Proofs.YtpollgibgphipaaDoor.Rat Go.Proofs.YtpollgibgphipaaDoor.ChoP Go.Proofs.YtpollgibgphipaaDoor.Fact Go.Proofs.YtpollgibgphipaaDoor.Root Go.Proofs.YtpollgibgphipaaDoor.SplitPlain Go.Proofs.YtpollgibgphipaaDoor.SplitP Go.Proofs.YtpollgibgphipaaDoor.Cg Go.Proofs.YtpollgibgphipaaDoor.ChoI Go.Proofs.YtpollgibgphipaaDoor.Spin Go.Proofs.YtpollgibgphipaaDoor.Row Go.Proofs.YtpollgibgphipaaDoor.Later
set_option linter.unusedVariables false
set_option linter.unusedSimpArgs false

theorem ihas_yes (j m : Int) (w : World) (hj : 0 ≤ j ∧ j ≤ 24) (hm : -j ≤ m ∧ m ≤ j ∧ (m - j) % 2 = 0) :
    Calls Tryd.prog 65 #[.int .i64 j, .int .i64 m] w fun e w' => e = .returned (.bool true) ∧ w = w' := by
  obtain ⟨j0, j1⟩ := hj
  obtain ⟨m0, m1, m2⟩ := hm
  have e1 : (m - j).tmod 2 = 0 := Int.tmod_eq_zero_of_dvd (by omega)
  go_enter Tryd.func65, Tryd.ntmps65
  go_wp2
  go_ret
  exact ⟨rfl, rfl⟩
theorem iSpinHas_yes (j m : Int) (w : World) (hj : 0 ≤ j ∧ j ≤ 24) (hm : -j ≤ m ∧ m ≤ j ∧ (m - j) % 2 = 0) :
    Calls Tryd.prog 50 #[.int .i64 j, .int .i64 m] w fun e w' => e = .returned (.bool true) ∧ w = w' := by
  have hS := fun W => iSpinValid j W
  rw [spinOk_true.2 hj] at hS
  have HS := Lib.hid hS
  have HH := Lib.hid (fun W => ihas_yes j m W hj hm)
  clear hS hj hm
  go_enter Tryd.func50, Tryd.ntmps50
  go_wp2_with fail
  (with_reducible refine (HS.out _).mono ?_)
  rintro e w' ⟨rfl, rfl⟩
  go_wp2_with fail
  (with_reducible refine (HH.out _).mono ?_)
  rintro e w' ⟨rfl, rfl⟩
  go_wp2
  go_ret
  exact ⟨rfl, rfl⟩
theorem icouple_yes (j : Int) (w : World) (h : 0 ≤ j ∧ j ≤ 6) : Calls Tryd.prog 79 #[.int .i64 j] w fun e w' => e = .returned (.bool true) ∧ w = w' := by
  obtain ⟨h0, h1⟩ := h
  go_enter Tryd.func79, Tryd.ntmps79
  go_wp2
  go_ret
  exact ⟨rfl, rfl⟩
theorem itriad_yes (x y : Int) (w : World) (hx : 0 ≤ x ∧ x ≤ 6) (hy : 0 ≤ y ∧ y ≤ 6) (ht : tri y 2 x = true) : Calls Tryd.prog 64 #[.int .i64 y, .int .i64 2, .int .i64 x] w fun e w' => e = .returned (.bool true) ∧ w = w' := by
  have hT := fun W => iSpinTriangle y 2 x W
  rw [ht] at hT
  have HT := Lib.hid hT
  have H1 := Lib.hid (fun W => icouple_yes y W hy)
  have H2 := Lib.hid (fun W => icouple_yes 2 W (by omega))
  have H3 := Lib.hid (fun W => icouple_yes x W hx)
  clear hT hx hy ht
  go_enter Tryd.func64, Tryd.ntmps64
  go_wp2_with fail
  (with_reducible refine (H1.out _).mono ?_)
  rintro e w' ⟨rfl, rfl⟩
  go_wp2_with fail
  (with_reducible refine (H2.out _).mono ?_)
  rintro e w' ⟨rfl, rfl⟩
  go_wp2_with fail
  (with_reducible refine (H3.out _).mono ?_)
  rintro e w' ⟨rfl, rfl⟩
  go_wp2_with fail
  (with_reducible refine (HT.out _).mono ?_)
  rintro e w' ⟨rfl, rfl⟩
  go_wp2
  go_ret
  exact ⟨rfl, rfl⟩
theorem iOk (x y u l : Int) (C : Cg x y u l) (w : World) :
    Calls Tryd.prog 49 #[.int .i64 y, .int .i64 2, .int .i64 x, .int .i64 l, .int .i64 (u - l)] w fun e w' => e = .returned (.bool true) ∧ w = w' := by
  have hb := C.bd
  have H1 := Lib.hid (fun W => itriad_yes x y W C.hx C.hy C.ht)
  have H2 := Lib.hid (fun W => iSpinHas_yes y l W (by have := C.hy; omega) ⟨by omega, by omega, by omega⟩)
  have H3 := Lib.hid (fun W => iSpinHas_yes 2 (u - l) W (by omega) ⟨by omega, by omega, by omega⟩)
  clear C hb
  go_enter Tryd.func49, Tryd.ntmps49
  go_wp2_with fail
  (with_reducible refine (H1.out _).mono ?_)
  rintro e w' ⟨rfl, rfl⟩
  go_wp2_with fail
  (with_reducible refine (H2.out _).mono ?_)
  rintro e w' ⟨rfl, rfl⟩
  go_wp2_with fail
  (with_reducible refine (H3.out _).mono ?_)
  rintro e w' ⟨rfl, rfl⟩
  go_wp2
  go_ret
  exact ⟨rfl, rfl⟩
theorem icsum_step {y x u l : Int} {k : Nat} : csumN y 2 x l (u - l) (k + 1) = csumN y 2 x l (u - l) k + cterm y 2 x l (u - l) k := rfl
set_option maxRecDepth 100000 in
set_option maxHeartbeats 2000000 in
theorem iCoupleSum (x y u l : Int) (C : Cg x y u l) (w : World) :
    Calls Tryd.prog 53 #[.int .i64 y, .int .i64 2, .int .i64 x, .int .i64 l, .int .i64 (u - l)] w (Gives (.int .i64 (csum y 2 x l (u - l))) w) := by
  have hb := C.bd
  have ht := C.tri
  have hx := C.hx
  have hy := C.hy
  have HO := Lib.hid (fun W => iOk x y u l C W)
  have HS := Lib.hid (fun W => iSpinHas_yes x u W (by omega) ⟨by omega, by omega, by omega⟩)
  have hlu : l + (u - l) = u := by omega
  obtain ⟨X, hX⟩ : ∃ X : Nat, (y + 2 - x) / 2 = (X : Int) := ⟨((y + 2 - x) / 2).toNat, by omega⟩
  have hX4 : X ≤ 4 := by omega
  have HX := Lib.hid hX
  have hcs : csum y 2 x l (u - l) = csumN y 2 x l (u - l) (X + 1) := by unfold csum; rw [hX]; congr 1
  have HCS := Lib.hid hcs
  have HB := Lib.hid (fun k => csumN_bd (a := y) (c := x) (m := l) (n := u - l) hy hx (by omega) (by omega) (by omega) k)
  have HT := Lib.hid (fun k => cterm_bd (a := y) (c := x) (m := l) (n := u - l) hy hx (by omega) (by omega) (by omega) k)
  have hc1 := fun k W (hk : 0 ≤ k ∧ k ≤ 10) => iChoose ((y + 2 - x) / 2) k W (by omega) (by omega) (by omega) (by omega)
  have hc2 := fun k W (hk : 0 ≤ k ∧ k ≤ 10) => iChoose ((y - 2 + x) / 2) ((y - l) / 2 - k) W (by omega) (by omega) (by omega) (by omega)
  have hc3 := fun k W (hk : 0 ≤ k ∧ k ≤ 10) => iChoose ((2 - y + x) / 2) ((2 + (u - l)) / 2 - k) W (by omega) (by omega) (by omega) (by omega)
  have b1 := fun k => choI_bd (n := (y + 2 - x) / 2) (k := k) (by omega) (by omega)
  have b2 := fun k => choI_bd (n := (y - 2 + x) / 2) (k := k) (by omega) (by omega)
  have b3 := fun k => choI_bd (n := (2 - y + x) / 2) (k := k) (by omega) (by omega)
  have HB1 := Lib.hid b1
  have HB2 := Lib.hid b2
  have HB3 := Lib.hid b3
  have HC1 := Lib.hid hc1
  have HC2 := Lib.hid hc2
  have HC3 := Lib.hid hc3
  have HD := Lib.hid (fun k => icsum_step (y := y) (x := x) (u := u) (l := l) (k := k))
  obtain ⟨hx0, hx1⟩ := hx
  obtain ⟨hy0, hy1⟩ := hy
  have p1 : 0 ≤ y + 2 - x := by omega
  have p2 : 0 ≤ y - 2 + x := by omega
  have p3 : 0 ≤ 2 - y + x := by omega
  have p4 : 0 ≤ y - l ∧ y - l ≤ 12 := by omega
  have p5 : 0 ≤ 2 + (u - l) ∧ 2 + (u - l) ≤ 4 := by omega
  obtain ⟨p41, p42⟩ := p4
  obtain ⟨p51, p52⟩ := p5
  have p6 : -2 ≤ u - l ∧ u - l ≤ 2 := by omega
  obtain ⟨p61, p62⟩ := p6
  clear hb hX hcs b1 b2 b3 hc1 hc2 hc3 C ht
  go_enter Tryd.func53, Tryd.ntmps53
  go_wp2_with fail
  (with_reducible refine (HO.out _).mono ?_)
  rintro e w' ⟨rfl, rfl⟩
  go_wp2_with fail
  (with_reducible refine (HS.out _).mono ?_)
  rintro e w' ⟨rfl, rfl⟩
  go_wp2
  go_loopw [14, 15, 52] (fun s g k wr => ∃ m : Nat, m ≤ X + 1 ∧ s = .int .i64 (csumN y 2 x l (u - l) m) ∧ g = .int .i64 (if m % 2 = 1 then -1 else 1) ∧ k = .int .i64 m ∧ Below w.heap.size w wr) (fun _ _ k _ => X + 1 - (intOf k).toNat)
  case atStart => exact ⟨0, by omega, rfl, rfl, rfl, Below.refl _ _⟩
  case round =>
    obtain ⟨m, hm, rfl, rfl, rfl, hB⟩ := hrel
    have hs := HB.out m
    by_cases hlt : m < X + 1
    · have hltI : decide ((m : Int) < (y + 2 - x) / 2 + 1) = true := by rw [HX.out]; exact decide_eq_true (by omega)
      have hd := HD.out m
      have a1 := HB1.out m
      have a2 := HB2.out ((y - l) / 2 - m)
      have a3 := HB3.out ((2 + (u - l)) / 2 - m)
      have tb := term_bd a1 a2 a3
      have c1 := fun W => HC1.out m W (by omega)
      have c2 := fun W => HC2.out m W (by omega)
      have c3 := fun W => HC3.out m W (by omega)
      have hq : (0 : Int) ≤ (y - l) / 2 ∧ (y - l) / 2 ≤ 6 := by omega
      have hq2 : (0 : Int) ≤ (2 + (u - l)) / 2 ∧ (2 + (u - l)) / 2 ≤ 2 := by omega
      unfold cterm at hd
      generalize choI ((y + 2 - x) / 2) m = A at *
      generalize choI ((y - 2 + x) / 2) ((y - l) / 2 - m) = B at *
      generalize choI ((2 - y + x) / 2) ((2 + (u - l)) / 2 - m) = D at *
      have K1 := Lib.hid c1
      have K2 := Lib.hid c2
      have K3 := Lib.hid c3
      have HE := Lib.hid hd
      have hg : (m % 2 = 1 ∧ (m + 1) % 2 = 0) ∨ (m % 2 = 0 ∧ (m + 1) % 2 = 1) := by omega
      have HG : ∃ g : Int, (g = 1 ∨ g = -1) ∧ (if m % 2 = 1 then (-1 : Int) else 1) = g ∧ (if (m + 1) % 2 = 1 then (-1 : Int) else 1) = -g := by
        rcases hg with ⟨h1, h2⟩ | ⟨h1, h2⟩
        · exact ⟨-1, .inr rfl, if_pos h1, if_neg (by omega)⟩
        · exact ⟨1, .inl rfl, if_neg (by omega), if_pos h2⟩
      obtain ⟨g, hgc, hg1, hg2⟩ := HG
      have hq3 : (-1000 ≤ g * A ∧ g * A ≤ 1000) ∧ (-1000000 ≤ g * A * B ∧ g * A * B ≤ 1000000) ∧ (-1000000000 ≤ g * A * B * D ∧ g * A * B * D ≤ 1000000000) := by
        rcases hgc with rfl | rfl
        · rw [Int.one_mul]; exact ⟨by omega, by omega, by omega⟩
        · rw [Int.neg_mul, Int.one_mul, Int.neg_mul, Int.neg_mul]; exact ⟨by omega, by omega, by omega⟩
      have HG2 := Lib.hid hg2
      have HF := Lib.hid (show csumN y 2 x l (u - l) m + g * A * B * D = csumN y 2 x l (u - l) (m + 1) by rw [HE.out, hg1])
      rw [hg1]
      have hgb : -1 ≤ g ∧ g ≤ 1 := by omega
      obtain ⟨hgb1, hgb2⟩ := hgb
      obtain ⟨⟨t1, t2⟩, ⟨t3, t4⟩, t5, t6⟩ := hq3
      obtain ⟨s1, s2⟩ := hs
      obtain ⟨q1, q2⟩ := hq
      obtain ⟨q3, q4⟩ := hq2
      obtain ⟨a11, a12⟩ := a1
      obtain ⟨a21, a22⟩ := a2
      obtain ⟨a31, a32⟩ := a3
      have s3 : -10000000000 ≤ csumN y 2 x l (u - l) m := by omega
      have s4 : csumN y 2 x l (u - l) m ≤ 10000000000 := by omega
      generalize csumN y 2 x l (u - l) m = S at *
      clear c1 c2 c3 hd s1 s2 hg hg1 hg2 hgc tb HE
      go_wp2_with fail
      (with_reducible refine (K1.out _).mono ?_)
      rintro e w1 ⟨rfl, b1⟩
      have B1 := hB.trans (b1.mono hB.size)
      clear b1
      go_wp2_with fail
      (with_reducible refine (K2.out _).mono ?_)
      rintro e w2 ⟨rfl, b2⟩
      have B2 := B1.trans (b2.mono B1.size)
      clear b2
      go_wp2_with fail
      (with_reducible refine (K3.out _).mono ?_)
      rintro e w3 ⟨rfl, b3⟩
      have B3 := B2.trans (b3.mono B2.size)
      clear b3 B1 B2 hB
      go_wp2
      go_roundw
      case rel => exact ⟨m + 1, by omega, by rw [← HF.out], by rw [HG2.out], by go_num, B3⟩
      case measure => simp [intOf]; omega
    · obtain rfl : m = X + 1 := by omega
      have hltI : decide (((X + 1 : Nat) : Int) < (y + 2 - x) / 2 + 1) = false := by rw [HX.out]; exact decide_eq_false (by omega)
      have hltJ : decide ((X : Int) + 1 < (y + 2 - x) / 2 + 1) = false := by rw [HX.out]; exact decide_eq_false (by omega)
      have hltK : ¬ (X : Int) + 1 < (y + 2 - x) / 2 + 1 := by rw [HX.out]; omega
      have hltM : ¬ (X : Int) < (y + 2 - x) / 2 := by rw [HX.out]; omega
      have hltN : decide ((X : Int) < (y + 2 - x) / 2) = false := decide_eq_false hltM
      generalize (if (X + 1) % 2 = 1 then (-1 : Int) else 1) = gg
      go_wp2
      go_ret
      exact ⟨ret_int HCS.out.symm, hB⟩
theorem ifour_bd {p q r s : Int} (hp : 0 ≤ p ∧ p ≤ 1000) (hq : 0 ≤ q ∧ q ≤ 1000) (hr : 0 ≤ r ∧ r ≤ 1000) (hs : 0 ≤ s ∧ s ≤ 1000) : 0 ≤ p * q * r * s ∧ p * q * r * s ≤ 1000000000000 := by
  have h := (term_bd hp hq hr).2
  have h3 := Int.mul_nonneg h.1 hs.1
  have h4 := Int.mul_le_mul (a := p * q * r) (b := s) (c := 1000000000) (d := 1000) (by omega) hs.2 hs.1 (by omega)
  omega
set_option maxRecDepth 100000 in
set_option maxHeartbeats 2000000 in
theorem iClebsch (x y u l : Int) (C : Cg x y u l) (w : World) :
    Calls Tryd.prog 31 #[.int .i64 y, .int .i64 2, .int .i64 x, .int .i64 l, .int .i64 (u - l)] w (Gives (.tuple #[.agg #[.int .i64 (cmpI (csum y 2 x l (u - l)) 0), .int .i64 (stR x y u l).n, .int .i64 (stR x y u l).d], .bool true]) w) := by
  have hb := C.bd
  have ht := C.tri
  have hx := C.hx
  have hy := C.hy
  have hst := C.str
  have HO := Lib.hid (fun W => iOk x y u l C W)
  have HS := Lib.hid (fun W => iSpinHas_yes x u W (by omega) ⟨by omega, by omega, by omega⟩)
  have HCS := Lib.hid (fun W => iCoupleSum x y u l C W)
  have hR := fun W => iRootOf (csum y 2 x l (u - l)) (cnum y 2 x) (cden y 2 x l (u - l)) W (by omega) (by omega) (by omega)
  rw [C.root] at hR
  unfold rtV at hR
  have hlu : l + (u - l) = u := by omega
  have hc1 := fun W => iChoose y ((y + 2 - x) / 2) W (by omega) (by omega) (by omega) (by omega)
  have hc2 := fun W => iChoose 2 ((y + 2 - x) / 2) W (by omega) (by omega) (by omega) (by omega)
  have hc3 := fun W => iChoose ((y + 2 + x) / 2 + 1) ((y + 2 - x) / 2) W (by omega) (by omega) (by omega) (by omega)
  have hc4 := fun W => iChoose y ((y - l) / 2) W (by omega) (by omega) (by omega) (by omega)
  have hc5 := fun W => iChoose 2 ((2 - (u - l)) / 2) W (by omega) (by omega) (by omega) (by omega)
  have hc6 := fun W => iChoose x ((x - l - (u - l)) / 2) W (by omega) (by omega) (by omega) (by omega)
  have b1 := choI_bd (n := y) (k := (y + 2 - x) / 2) (by omega) (by omega)
  have b2 := choI_bd (n := 2) (k := (y + 2 - x) / 2) (by omega) (by omega)
  have b3 := choI_bd (n := (y + 2 + x) / 2 + 1) (k := (y + 2 - x) / 2) (by omega) (by omega)
  have b4 := choI_bd (n := y) (k := (y - l) / 2) (by omega) (by omega)
  have b5 := choI_bd (n := 2) (k := (2 - (u - l)) / 2) (by omega) (by omega)
  have b6 := choI_bd (n := x) (k := (x - l - (u - l)) / 2) (by omega) (by omega)
  have m1 := (term_bd b1 b2 b2).1
  have m2 := (term_bd b3 b4 b5)
  have m3 := ifour_bd b3 b4 b5 b6
  have p1 : 0 ≤ y + 2 - x := by omega
  have p2 : 0 ≤ y + 2 + x := by omega
  have p4 : 0 ≤ y - l ∧ y - l ≤ 12 := by omega
  have p5 : 0 ≤ 2 - (u - l) ∧ 2 - (u - l) ≤ 4 := by omega
  have p6 : -2 ≤ u - l ∧ u - l ≤ 2 := by omega
  have p7 : 0 ≤ x - l - (u - l) ∧ x - l - (u - l) ≤ 12 := by omega
  have p8 : -12 ≤ x - l ∧ x - l ≤ 12 := by omega
  unfold cnum cden at hR
  generalize choI y ((y + 2 - x) / 2) = c1 at *
  generalize choI 2 ((y + 2 - x) / 2) = c2 at *
  generalize choI ((y + 2 + x) / 2 + 1) ((y + 2 - x) / 2) = c3 at *
  generalize choI y ((y - l) / 2) = c4 at *
  generalize choI 2 ((2 - (u - l)) / 2) = c5 at *
  generalize choI x ((x - l - (u - l)) / 2) = c6 at *
  generalize csum y 2 x l (u - l) = cs at *
  generalize cmpI cs 0 = sg at *
  generalize stR x y u l = sr at *
  obtain ⟨sn, sd, sk⟩ := sr
  have H1 := Lib.hid hc1
  have H2 := Lib.hid hc2
  have H3 := Lib.hid hc3
  have H4 := Lib.hid hc4
  have H5 := Lib.hid hc5
  have H6 := Lib.hid hc6
  have HR := Lib.hid hR
  obtain ⟨hx0, hx1⟩ := hx
  obtain ⟨hy0, hy1⟩ := hy
  obtain ⟨p41, p42⟩ := p4
  obtain ⟨p51, p52⟩ := p5
  obtain ⟨p61, p62⟩ := p6
  obtain ⟨p71, p72⟩ := p7
  obtain ⟨p81, p82⟩ := p8
  obtain ⟨b11, b12⟩ := b1
  obtain ⟨b21, b22⟩ := b2
  obtain ⟨b31, b32⟩ := b3
  obtain ⟨b41, b42⟩ := b4
  obtain ⟨b51, b52⟩ := b5
  obtain ⟨b61, b62⟩ := b6
  obtain ⟨m11, m12⟩ := m1
  obtain ⟨⟨m21, m22⟩, m23, m24⟩ := m2
  obtain ⟨m31, m32⟩ := m3
  have hd1 : 0 ≤ (y + 2 + x) / 2 ∧ (y + 2 + x) / 2 ≤ 7 := by omega
  obtain ⟨hd11, hd12⟩ := hd1
  clear hc1 hc2 hc3 hc4 hc5 hc6 hR hb ht C hst
  go_enter Tryd.func31, Tryd.ntmps31
  go_wp2_with fail
  (with_reducible refine (HO.out _).mono ?_)
  rintro e w' ⟨rfl, rfl⟩
  go_wp2_with fail
  (with_reducible refine (HS.out _).mono ?_)
  rintro e w' ⟨rfl, rfl⟩
  go_wp2_with fail
  (with_reducible refine (H3.out _).mono ?_)
  rintro e w1 ⟨rfl, b1⟩
  have hz1 := b1.size
  obtain ⟨hc1, hf1⟩ := bcell b1
  have B1 : Below w.heap.size w w1 := Below.trans (by repeat (first | (with_reducible refine Below.drew ?_) | (with_reducible refine below_drewN ?_ _) | (with_reducible refine Below.alloc ?_ ?_ _) | (with_reducible refine Below.setCell ?_ ?_ _) | (with_reducible assumption) | (with_reducible exact Below.refl _ _) | omega | (simp <;> omega))) (b1.mono (by first | omega | (simp <;> omega)))
  (try simp at hz1)
  have hy1 : w.heap.size < w1.heap.size := by omega
  clear b1
  have kc1_0_0 : w1.cell? ⟨w.heap.size, 0, none⟩ = some (.int .i64 0) := (hc1 (w.heap.size) 0 (by first | omega | (simp <;> omega))).trans (by first | (simp; done) | (simp [*]; done) | (simp [*, World.cell?_alloc_at, World.cell?_alloc_past, World.cell?_alloc_lt, lt2, lt3, lt4]; done))
  have kc1_1_0 : w1.cell? ⟨w.heap.size, 1, none⟩ = some (.int .i64 0) := (hc1 (w.heap.size) 1 (by first | omega | (simp <;> omega))).trans (by first | (simp; done) | (simp [*]; done) | (simp [*, World.cell?_alloc_at, World.cell?_alloc_past, World.cell?_alloc_lt, lt2, lt3, lt4]; done))
  have kc1_2_0 : w1.cell? ⟨w.heap.size, 2, none⟩ = some (.int .i64 0) := (hc1 (w.heap.size) 2 (by first | omega | (simp <;> omega))).trans (by first | (simp; done) | (simp [*]; done) | (simp [*, World.cell?_alloc_at, World.cell?_alloc_past, World.cell?_alloc_lt, lt2, lt3, lt4]; done))
  have kf1_0_0 : w1.frozen? ⟨w.heap.size, 0, none⟩ = false := (hf1 (w.heap.size) 0 (by first | omega | (simp <;> omega))).trans (by first | (simp; done) | (simp [*]; done) | (simp [*, World.frozen?_alloc_at, World.frozen?_alloc_past, lt2, lt3, lt4]; done))
  have kf1_1_0 : w1.frozen? ⟨w.heap.size, 1, none⟩ = false := (hf1 (w.heap.size) 1 (by first | omega | (simp <;> omega))).trans (by first | (simp; done) | (simp [*]; done) | (simp [*, World.frozen?_alloc_at, World.frozen?_alloc_past, lt2, lt3, lt4]; done))
  have kf1_2_0 : w1.frozen? ⟨w.heap.size, 2, none⟩ = false := (hf1 (w.heap.size) 2 (by first | omega | (simp <;> omega))).trans (by first | (simp; done) | (simp [*]; done) | (simp [*, World.frozen?_alloc_at, World.frozen?_alloc_past, lt2, lt3, lt4]; done))
  go_wp2_with fail
  (with_reducible refine (H4.out _).mono ?_)
  rintro e w2 ⟨rfl, b2⟩
  have hz2 := b2.size
  obtain ⟨hc2, hf2⟩ := bcell b2
  have B2 : Below w.heap.size w w2 := Below.trans (by repeat (first | (with_reducible refine Below.drew ?_) | (with_reducible refine below_drewN ?_ _) | (with_reducible refine Below.alloc ?_ ?_ _) | (with_reducible refine Below.setCell ?_ ?_ _) | (with_reducible assumption) | (with_reducible exact Below.refl _ _) | omega | (simp <;> omega))) (b2.mono (by first | omega | (simp <;> omega)))
  (try simp at hz2)
  have hy2 : w.heap.size < w2.heap.size := by omega
  clear b2
  have kc2_0_0 : w2.cell? ⟨w.heap.size, 0, none⟩ = some (.int .i64 0) := (hc2 (w.heap.size) 0 (by first | omega | (simp <;> omega))).trans (by first | (simp; done) | (simp [*]; done) | (simp [*, World.cell?_alloc_at, World.cell?_alloc_past, World.cell?_alloc_lt, lt2, lt3, lt4]; done))
  have kc2_1_0 : w2.cell? ⟨w.heap.size, 1, none⟩ = some (.int .i64 0) := (hc2 (w.heap.size) 1 (by first | omega | (simp <;> omega))).trans (by first | (simp; done) | (simp [*]; done) | (simp [*, World.cell?_alloc_at, World.cell?_alloc_past, World.cell?_alloc_lt, lt2, lt3, lt4]; done))
  have kc2_2_0 : w2.cell? ⟨w.heap.size, 2, none⟩ = some (.int .i64 0) := (hc2 (w.heap.size) 2 (by first | omega | (simp <;> omega))).trans (by first | (simp; done) | (simp [*]; done) | (simp [*, World.cell?_alloc_at, World.cell?_alloc_past, World.cell?_alloc_lt, lt2, lt3, lt4]; done))
  have kf2_0_0 : w2.frozen? ⟨w.heap.size, 0, none⟩ = false := (hf2 (w.heap.size) 0 (by first | omega | (simp <;> omega))).trans (by first | (simp; done) | (simp [*]; done) | (simp [*, World.frozen?_alloc_at, World.frozen?_alloc_past, lt2, lt3, lt4]; done))
  have kf2_1_0 : w2.frozen? ⟨w.heap.size, 1, none⟩ = false := (hf2 (w.heap.size) 1 (by first | omega | (simp <;> omega))).trans (by first | (simp; done) | (simp [*]; done) | (simp [*, World.frozen?_alloc_at, World.frozen?_alloc_past, lt2, lt3, lt4]; done))
  have kf2_2_0 : w2.frozen? ⟨w.heap.size, 2, none⟩ = false := (hf2 (w.heap.size) 2 (by first | omega | (simp <;> omega))).trans (by first | (simp; done) | (simp [*]; done) | (simp [*, World.frozen?_alloc_at, World.frozen?_alloc_past, lt2, lt3, lt4]; done))
  go_wp2_with fail
  (with_reducible refine (H5.out _).mono ?_)
  rintro e w3 ⟨rfl, b3⟩
  have hz3 := b3.size
  obtain ⟨hc3, hf3⟩ := bcell b3
  have B3 : Below w.heap.size w w3 := Below.trans (by repeat (first | (with_reducible refine Below.drew ?_) | (with_reducible refine below_drewN ?_ _) | (with_reducible refine Below.alloc ?_ ?_ _) | (with_reducible refine Below.setCell ?_ ?_ _) | (with_reducible assumption) | (with_reducible exact Below.refl _ _) | omega | (simp <;> omega))) (b3.mono (by first | omega | (simp <;> omega)))
  (try simp at hz3)
  have hy3 : w.heap.size < w3.heap.size := by omega
  clear b3
  have kc3_0_0 : w3.cell? ⟨w.heap.size, 0, none⟩ = some (.int .i64 0) := (hc3 (w.heap.size) 0 (by first | omega | (simp <;> omega))).trans (by first | (simp; done) | (simp [*]; done) | (simp [*, World.cell?_alloc_at, World.cell?_alloc_past, World.cell?_alloc_lt, lt2, lt3, lt4]; done))
  have kc3_1_0 : w3.cell? ⟨w.heap.size, 1, none⟩ = some (.int .i64 0) := (hc3 (w.heap.size) 1 (by first | omega | (simp <;> omega))).trans (by first | (simp; done) | (simp [*]; done) | (simp [*, World.cell?_alloc_at, World.cell?_alloc_past, World.cell?_alloc_lt, lt2, lt3, lt4]; done))
  have kc3_2_0 : w3.cell? ⟨w.heap.size, 2, none⟩ = some (.int .i64 0) := (hc3 (w.heap.size) 2 (by first | omega | (simp <;> omega))).trans (by first | (simp; done) | (simp [*]; done) | (simp [*, World.cell?_alloc_at, World.cell?_alloc_past, World.cell?_alloc_lt, lt2, lt3, lt4]; done))
  have kf3_0_0 : w3.frozen? ⟨w.heap.size, 0, none⟩ = false := (hf3 (w.heap.size) 0 (by first | omega | (simp <;> omega))).trans (by first | (simp; done) | (simp [*]; done) | (simp [*, World.frozen?_alloc_at, World.frozen?_alloc_past, lt2, lt3, lt4]; done))
  have kf3_1_0 : w3.frozen? ⟨w.heap.size, 1, none⟩ = false := (hf3 (w.heap.size) 1 (by first | omega | (simp <;> omega))).trans (by first | (simp; done) | (simp [*]; done) | (simp [*, World.frozen?_alloc_at, World.frozen?_alloc_past, lt2, lt3, lt4]; done))
  have kf3_2_0 : w3.frozen? ⟨w.heap.size, 2, none⟩ = false := (hf3 (w.heap.size) 2 (by first | omega | (simp <;> omega))).trans (by first | (simp; done) | (simp [*]; done) | (simp [*, World.frozen?_alloc_at, World.frozen?_alloc_past, lt2, lt3, lt4]; done))
  go_wp2_with fail
  (with_reducible refine (H6.out _).mono ?_)
  rintro e w4 ⟨rfl, b4⟩
  have hz4 := b4.size
  obtain ⟨hc4, hf4⟩ := bcell b4
  have B4 : Below w.heap.size w w4 := Below.trans (by repeat (first | (with_reducible refine Below.drew ?_) | (with_reducible refine below_drewN ?_ _) | (with_reducible refine Below.alloc ?_ ?_ _) | (with_reducible refine Below.setCell ?_ ?_ _) | (with_reducible assumption) | (with_reducible exact Below.refl _ _) | omega | (simp <;> omega))) (b4.mono (by first | omega | (simp <;> omega)))
  (try simp at hz4)
  have hy4 : w.heap.size < w4.heap.size := by omega
  clear b4
  have kc4_0_0 : w4.cell? ⟨w.heap.size, 0, none⟩ = some (.int .i64 0) := (hc4 (w.heap.size) 0 (by first | omega | (simp <;> omega))).trans (by first | (simp; done) | (simp [*]; done) | (simp [*, World.cell?_alloc_at, World.cell?_alloc_past, World.cell?_alloc_lt, lt2, lt3, lt4]; done))
  have kc4_1_0 : w4.cell? ⟨w.heap.size, 1, none⟩ = some (.int .i64 0) := (hc4 (w.heap.size) 1 (by first | omega | (simp <;> omega))).trans (by first | (simp; done) | (simp [*]; done) | (simp [*, World.cell?_alloc_at, World.cell?_alloc_past, World.cell?_alloc_lt, lt2, lt3, lt4]; done))
  have kc4_2_0 : w4.cell? ⟨w.heap.size, 2, none⟩ = some (.int .i64 0) := (hc4 (w.heap.size) 2 (by first | omega | (simp <;> omega))).trans (by first | (simp; done) | (simp [*]; done) | (simp [*, World.cell?_alloc_at, World.cell?_alloc_past, World.cell?_alloc_lt, lt2, lt3, lt4]; done))
  have kf4_0_0 : w4.frozen? ⟨w.heap.size, 0, none⟩ = false := (hf4 (w.heap.size) 0 (by first | omega | (simp <;> omega))).trans (by first | (simp; done) | (simp [*]; done) | (simp [*, World.frozen?_alloc_at, World.frozen?_alloc_past, lt2, lt3, lt4]; done))
  have kf4_1_0 : w4.frozen? ⟨w.heap.size, 1, none⟩ = false := (hf4 (w.heap.size) 1 (by first | omega | (simp <;> omega))).trans (by first | (simp; done) | (simp [*]; done) | (simp [*, World.frozen?_alloc_at, World.frozen?_alloc_past, lt2, lt3, lt4]; done))
  have kf4_2_0 : w4.frozen? ⟨w.heap.size, 2, none⟩ = false := (hf4 (w.heap.size) 2 (by first | omega | (simp <;> omega))).trans (by first | (simp; done) | (simp [*]; done) | (simp [*, World.frozen?_alloc_at, World.frozen?_alloc_past, lt2, lt3, lt4]; done))
  go_wp2_with fail
  (with_reducible refine (HCS.out _).mono ?_)
  rintro e w5 ⟨rfl, b5⟩
  have hz5 := b5.size
  obtain ⟨hc5, hf5⟩ := bcell b5
  have B5 : Below w.heap.size w w5 := Below.trans (by repeat (first | (with_reducible refine Below.drew ?_) | (with_reducible refine below_drewN ?_ _) | (with_reducible refine Below.alloc ?_ ?_ _) | (with_reducible refine Below.setCell ?_ ?_ _) | (with_reducible assumption) | (with_reducible exact Below.refl _ _) | omega | (simp <;> omega))) (b5.mono (by first | omega | (simp <;> omega)))
  (try simp at hz5)
  have hy5 : w.heap.size < w5.heap.size := by omega
  clear b5
  have kc5_0_0 : w5.cell? ⟨w.heap.size, 0, none⟩ = some (.int .i64 0) := (hc5 (w.heap.size) 0 (by first | omega | (simp <;> omega))).trans (by first | (simp; done) | (simp [*]; done) | (simp [*, World.cell?_alloc_at, World.cell?_alloc_past, World.cell?_alloc_lt, lt2, lt3, lt4]; done))
  have kc5_1_0 : w5.cell? ⟨w.heap.size, 1, none⟩ = some (.int .i64 0) := (hc5 (w.heap.size) 1 (by first | omega | (simp <;> omega))).trans (by first | (simp; done) | (simp [*]; done) | (simp [*, World.cell?_alloc_at, World.cell?_alloc_past, World.cell?_alloc_lt, lt2, lt3, lt4]; done))
  have kc5_2_0 : w5.cell? ⟨w.heap.size, 2, none⟩ = some (.int .i64 0) := (hc5 (w.heap.size) 2 (by first | omega | (simp <;> omega))).trans (by first | (simp; done) | (simp [*]; done) | (simp [*, World.cell?_alloc_at, World.cell?_alloc_past, World.cell?_alloc_lt, lt2, lt3, lt4]; done))
  have kf5_0_0 : w5.frozen? ⟨w.heap.size, 0, none⟩ = false := (hf5 (w.heap.size) 0 (by first | omega | (simp <;> omega))).trans (by first | (simp; done) | (simp [*]; done) | (simp [*, World.frozen?_alloc_at, World.frozen?_alloc_past, lt2, lt3, lt4]; done))
  have kf5_1_0 : w5.frozen? ⟨w.heap.size, 1, none⟩ = false := (hf5 (w.heap.size) 1 (by first | omega | (simp <;> omega))).trans (by first | (simp; done) | (simp [*]; done) | (simp [*, World.frozen?_alloc_at, World.frozen?_alloc_past, lt2, lt3, lt4]; done))
  have kf5_2_0 : w5.frozen? ⟨w.heap.size, 2, none⟩ = false := (hf5 (w.heap.size) 2 (by first | omega | (simp <;> omega))).trans (by first | (simp; done) | (simp [*]; done) | (simp [*, World.frozen?_alloc_at, World.frozen?_alloc_past, lt2, lt3, lt4]; done))
  go_wp2_with fail
  (with_reducible refine (H1.out _).mono ?_)
  rintro e w6 ⟨rfl, b6⟩
  have hz6 := b6.size
  obtain ⟨hc6, hf6⟩ := bcell b6
  have B6 : Below w.heap.size w w6 := Below.trans (by repeat (first | (with_reducible refine Below.drew ?_) | (with_reducible refine below_drewN ?_ _) | (with_reducible refine Below.alloc ?_ ?_ _) | (with_reducible refine Below.setCell ?_ ?_ _) | (with_reducible assumption) | (with_reducible exact Below.refl _ _) | omega | (simp <;> omega))) (b6.mono (by first | omega | (simp <;> omega)))
  (try simp at hz6)
  have hy6 : w.heap.size < w6.heap.size := by omega
  clear b6
  have kc6_0_0 : w6.cell? ⟨w.heap.size, 0, none⟩ = some (.int .i64 0) := (hc6 (w.heap.size) 0 (by first | omega | (simp <;> omega))).trans (by first | (simp; done) | (simp [*]; done) | (simp [*, World.cell?_alloc_at, World.cell?_alloc_past, World.cell?_alloc_lt, lt2, lt3, lt4]; done))
  have kc6_1_0 : w6.cell? ⟨w.heap.size, 1, none⟩ = some (.int .i64 0) := (hc6 (w.heap.size) 1 (by first | omega | (simp <;> omega))).trans (by first | (simp; done) | (simp [*]; done) | (simp [*, World.cell?_alloc_at, World.cell?_alloc_past, World.cell?_alloc_lt, lt2, lt3, lt4]; done))
  have kc6_2_0 : w6.cell? ⟨w.heap.size, 2, none⟩ = some (.int .i64 0) := (hc6 (w.heap.size) 2 (by first | omega | (simp <;> omega))).trans (by first | (simp; done) | (simp [*]; done) | (simp [*, World.cell?_alloc_at, World.cell?_alloc_past, World.cell?_alloc_lt, lt2, lt3, lt4]; done))
  have kf6_0_0 : w6.frozen? ⟨w.heap.size, 0, none⟩ = false := (hf6 (w.heap.size) 0 (by first | omega | (simp <;> omega))).trans (by first | (simp; done) | (simp [*]; done) | (simp [*, World.frozen?_alloc_at, World.frozen?_alloc_past, lt2, lt3, lt4]; done))
  have kf6_1_0 : w6.frozen? ⟨w.heap.size, 1, none⟩ = false := (hf6 (w.heap.size) 1 (by first | omega | (simp <;> omega))).trans (by first | (simp; done) | (simp [*]; done) | (simp [*, World.frozen?_alloc_at, World.frozen?_alloc_past, lt2, lt3, lt4]; done))
  have kf6_2_0 : w6.frozen? ⟨w.heap.size, 2, none⟩ = false := (hf6 (w.heap.size) 2 (by first | omega | (simp <;> omega))).trans (by first | (simp; done) | (simp [*]; done) | (simp [*, World.frozen?_alloc_at, World.frozen?_alloc_past, lt2, lt3, lt4]; done))
  go_wp2_with fail
  (with_reducible refine (H2.out _).mono ?_)
  rintro e w7 ⟨rfl, b7⟩
  have hz7 := b7.size
  obtain ⟨hc7, hf7⟩ := bcell b7
  have B7 : Below w.heap.size w w7 := Below.trans (by repeat (first | (with_reducible refine Below.drew ?_) | (with_reducible refine below_drewN ?_ _) | (with_reducible refine Below.alloc ?_ ?_ _) | (with_reducible refine Below.setCell ?_ ?_ _) | (with_reducible assumption) | (with_reducible exact Below.refl _ _) | omega | (simp <;> omega))) (b7.mono (by first | omega | (simp <;> omega)))
  (try simp at hz7)
  have hy7 : w.heap.size < w7.heap.size := by omega
  clear b7
  have kc7_0_0 : w7.cell? ⟨w.heap.size, 0, none⟩ = some (.int .i64 0) := (hc7 (w.heap.size) 0 (by first | omega | (simp <;> omega))).trans (by first | (simp; done) | (simp [*]; done) | (simp [*, World.cell?_alloc_at, World.cell?_alloc_past, World.cell?_alloc_lt, lt2, lt3, lt4]; done))
  have kc7_1_0 : w7.cell? ⟨w.heap.size, 1, none⟩ = some (.int .i64 0) := (hc7 (w.heap.size) 1 (by first | omega | (simp <;> omega))).trans (by first | (simp; done) | (simp [*]; done) | (simp [*, World.cell?_alloc_at, World.cell?_alloc_past, World.cell?_alloc_lt, lt2, lt3, lt4]; done))
  have kc7_2_0 : w7.cell? ⟨w.heap.size, 2, none⟩ = some (.int .i64 0) := (hc7 (w.heap.size) 2 (by first | omega | (simp <;> omega))).trans (by first | (simp; done) | (simp [*]; done) | (simp [*, World.cell?_alloc_at, World.cell?_alloc_past, World.cell?_alloc_lt, lt2, lt3, lt4]; done))
  have kf7_0_0 : w7.frozen? ⟨w.heap.size, 0, none⟩ = false := (hf7 (w.heap.size) 0 (by first | omega | (simp <;> omega))).trans (by first | (simp; done) | (simp [*]; done) | (simp [*, World.frozen?_alloc_at, World.frozen?_alloc_past, lt2, lt3, lt4]; done))
  have kf7_1_0 : w7.frozen? ⟨w.heap.size, 1, none⟩ = false := (hf7 (w.heap.size) 1 (by first | omega | (simp <;> omega))).trans (by first | (simp; done) | (simp [*]; done) | (simp [*, World.frozen?_alloc_at, World.frozen?_alloc_past, lt2, lt3, lt4]; done))
  have kf7_2_0 : w7.frozen? ⟨w.heap.size, 2, none⟩ = false := (hf7 (w.heap.size) 2 (by first | omega | (simp <;> omega))).trans (by first | (simp; done) | (simp [*]; done) | (simp [*, World.frozen?_alloc_at, World.frozen?_alloc_past, lt2, lt3, lt4]; done))
  go_wp2_with fail
  (with_reducible refine (HR.out _).mono ?_)
  rintro e w8 ⟨rfl, b8⟩
  have hz8 := b8.size
  obtain ⟨hc8, hf8⟩ := bcell b8
  have B8 : Below w.heap.size w w8 := Below.trans (by repeat (first | (with_reducible refine Below.drew ?_) | (with_reducible refine below_drewN ?_ _) | (with_reducible refine Below.alloc ?_ ?_ _) | (with_reducible refine Below.setCell ?_ ?_ _) | (with_reducible assumption) | (with_reducible exact Below.refl _ _) | omega | (simp <;> omega))) (b8.mono (by first | omega | (simp <;> omega)))
  (try simp at hz8)
  have hy8 : w.heap.size < w8.heap.size := by omega
  clear b8
  have kc8_0_0 : w8.cell? ⟨w.heap.size, 0, none⟩ = some (.int .i64 0) := (hc8 (w.heap.size) 0 (by first | omega | (simp <;> omega))).trans (by first | (simp; done) | (simp [*]; done) | (simp [*, World.cell?_alloc_at, World.cell?_alloc_past, World.cell?_alloc_lt, lt2, lt3, lt4]; done))
  have kc8_1_0 : w8.cell? ⟨w.heap.size, 1, none⟩ = some (.int .i64 0) := (hc8 (w.heap.size) 1 (by first | omega | (simp <;> omega))).trans (by first | (simp; done) | (simp [*]; done) | (simp [*, World.cell?_alloc_at, World.cell?_alloc_past, World.cell?_alloc_lt, lt2, lt3, lt4]; done))
  have kc8_2_0 : w8.cell? ⟨w.heap.size, 2, none⟩ = some (.int .i64 0) := (hc8 (w.heap.size) 2 (by first | omega | (simp <;> omega))).trans (by first | (simp; done) | (simp [*]; done) | (simp [*, World.cell?_alloc_at, World.cell?_alloc_past, World.cell?_alloc_lt, lt2, lt3, lt4]; done))
  have kf8_0_0 : w8.frozen? ⟨w.heap.size, 0, none⟩ = false := (hf8 (w.heap.size) 0 (by first | omega | (simp <;> omega))).trans (by first | (simp; done) | (simp [*]; done) | (simp [*, World.frozen?_alloc_at, World.frozen?_alloc_past, lt2, lt3, lt4]; done))
  have kf8_1_0 : w8.frozen? ⟨w.heap.size, 1, none⟩ = false := (hf8 (w.heap.size) 1 (by first | omega | (simp <;> omega))).trans (by first | (simp; done) | (simp [*]; done) | (simp [*, World.frozen?_alloc_at, World.frozen?_alloc_past, lt2, lt3, lt4]; done))
  have kf8_2_0 : w8.frozen? ⟨w.heap.size, 2, none⟩ = false := (hf8 (w.heap.size) 2 (by first | omega | (simp <;> omega))).trans (by first | (simp; done) | (simp [*]; done) | (simp [*, World.frozen?_alloc_at, World.frozen?_alloc_past, lt2, lt3, lt4]; done))
  go_wp2
  refine bodyPost_ret (v := .tuple #[.agg #[.int .i64 sg, .int .i64 sn, .int .i64 sd], .bool true]) (by simp [results, Tryd.results31, go_sem, *, lt2, lt3, lt4, lt5, lt6]) rfl ⟨rfl, (by repeat (first | (with_reducible refine Below.drew ?_) | (with_reducible refine below_drewN ?_ _) | (with_reducible refine Below.alloc ?_ ?_ _) | (with_reducible refine Below.setCell ?_ ?_ _) | (with_reducible assumption) | (with_reducible exact Below.refl _ _) | omega | (simp <;> omega)))⟩
end Go.Proofs.YtpollgibgphipaaDoor.CgI
