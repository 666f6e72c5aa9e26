/-
  Rationals: the plain functions, and the contracts of the program's and the reference's.
-/
import Derived.Test.YtpollgibgphipaaDoorLater
import Derived.Test.YtpollgibgphipaaDoorRatP
import Derived.RegionTactic
namespace Go.Proofs.YtpollgibgphipaaDoor.Rat
open Go.RowKit Go.Proofs.YtpollgibgphipaaDoor.RatP Go.Proofs.YtpollgibgphipaaDoor.Spin Go.Proofs.YtpollgibgphipaaDoor.Row Go.Proofs.YtpollgibgphipaaDoor.Later
set_option linter.unusedVariables false
set_option linter.unusedSimpArgs false

theorem ratOk_den {n d : Int} (h : ¬ (1 ≤ d ∧ d ≤ 1000000000)) : ratOk n d = false := false_of ratOk_true (fun g => h g.1)
theorem ratOk_num {n d : Int} (h : ¬ (-1000000000 ≤ n ∧ n ≤ 1000000000)) : ratOk n d = false := false_of ratOk_true (fun g => h g.2.1)
theorem ratOk_in {n d : Int} (h1 : 1 ≤ d ∧ d ≤ 1000000000) (h2 : -1000000000 ≤ n ∧ n ≤ 1000000000) : ratOk n d = decide (Int.gcd n d = 1) := by simp [ratOk, h1, h2]
theorem mul_bd {a d : Int} (h1 : -1000000000 ≤ a) (h2 : a ≤ 1000000000) (h3 : 0 ≤ d) (h4 : d ≤ 1000000000) : -1000000000000000000 ≤ a * d ∧ a * d ≤ 1000000000000000000 := by
  have g1 := Int.mul_le_mul_of_nonneg_right h1 h3
  have g2 := Int.mul_le_mul_of_nonneg_right h2 h3
  omega
theorem mul_bd2 {a c : Int} (h1 : -1000000000 ≤ a) (h2 : a ≤ 1000000000) (h3 : -1000000000 ≤ c) (h4 : c ≤ 1000000000) : -1000000000000000000 ≤ a * c ∧ a * c ≤ 1000000000000000000 := by
  rcases Int.le_total 0 c with h | h
  · exact mul_bd h1 h2 h h4
  · have g := mul_bd h1 h2 (show 0 ≤ -c by omega) (by omega)
    rw [Int.mul_neg] at g
    omega
theorem mul_pos' {b d : Int} (h1 : 1 ≤ b) (h2 : 1 ≤ d) : 1 ≤ b * d := by
  have := Int.mul_pos (a := b) (b := d) (by omega) (by omega)
  omega
theorem gcd_le {a b : Int} (h : 1 ≤ b) : (Int.gcd a b : Int) ≤ b := Int.le_of_dvd (by omega) (Int.gcd_dvd_right a b)
theorem tdiv_bd {a g : Int} (hg : 1 ≤ g) (M : Int) (h1 : -M ≤ a) (h2 : a ≤ M) : -M ≤ a.tdiv g ∧ a.tdiv g ≤ M := by
  have h := Int.natAbs_tdiv_le_natAbs a g
  omega
theorem ediv_bd {a g : Int} (hg : 1 ≤ g) (M : Int) (h1 : 0 ≤ a) (h2 : a ≤ M) : 0 ≤ a / g ∧ a / g ≤ M :=
  ⟨Int.ediv_nonneg h1 (by omega), Int.le_trans (Int.ediv_le_self _ h1) h2⟩
set_option maxRecDepth 100000 in
set_option maxHeartbeats 1000000 in
theorem l1Gcd (x y : Nat) (w : World) (hx : x ≤ 9223372036854775807) (hy : y ≤ 9223372036854775807) :
    Calls Tryd.prog 83 #[.int .i64 (x : Int), .int .i64 (y : Int)] w fun e w' => e = .returned (.int .i64 (Nat.gcd x y : Nat)) ∧ w = w' := by
  go_enter Tryd.func83, Tryd.ntmps83
  go_wp2
  go_loopw [0, 1] (fun a b wr => ∃ p q : Nat, p ≤ 9223372036854775807 ∧ q ≤ 9223372036854775807 ∧ a = .int .i64 (p : Int) ∧ b = .int .i64 (q : Int) ∧ Hid (Nat.gcd p q = Nat.gcd x y) ∧ w = wr) (fun _ b _ => (intOf b).toNat)
  case atStart => exact ⟨x, y, hx, hy, rfl, rfl, Lib.hid rfl, rfl⟩
  case round =>
    obtain ⟨p, q, hp, hq, rfl, rfl, hG, rfl⟩ := hrel
    by_cases h0 : q = 0
    · subst h0
      have HG := Lib.hid (hG.out.symm.trans (Nat.gcd_zero_right p))
      go_wp2
      go_ret
      exact ⟨ret_int (by rw [HG.out]), rfl⟩
    · have h0' : ((q : Int) == 0) = false := by rw [beq_eq_false_iff_ne]; omega
      have h1 : ¬ (q : Int) = 0 := by omega
      have hlt : p % q < q := Nat.mod_lt _ (by omega)
      have HG := Lib.hid (show Nat.gcd q (p % q) = Nat.gcd x y by rw [← hG.out, Nat.gcd_comm p q, Nat.gcd_rec q p, Nat.gcd_comm])
      go_wp2
      go_roundw
      case rel => exact ⟨q, p % q, hq, by omega, rfl, by simp, HG, trivial⟩
      case measure => simp [intOf]; omega
set_option maxRecDepth 100000 in
set_option maxHeartbeats 1000000 in
theorem divisor (a b : Int) (w : World) (ha : -9223372036854775807 ≤ a ∧ a ≤ 9223372036854775807) (hb : -9223372036854775807 ≤ b ∧ b ≤ 9223372036854775807) :
    Calls Tryd.prog 40 #[.int .i64 a, .int .i64 b] w (Gives (.int .i64 (Int.gcd a b : Nat)) w) := by
  have ea : absI a = (a.natAbs : Int) := by unfold absI; split <;> omega
  have eb : absI b = (b.natAbs : Int) := by unfold absI; split <;> omega
  have HD := Lib.hid (show Int.gcd a b = Nat.gcd a.natAbs b.natAbs from rfl)
  have hA := fun W => iabs a W ha.1 ha.2
  have hB := fun W => iabs b W hb.1 hb.2
  rw [ea] at hA
  rw [eb] at hB
  have HA := Lib.hid hA
  have HB := Lib.hid hB
  have hx : a.natAbs ≤ 9223372036854775807 := by omega
  have hy : b.natAbs ≤ 9223372036854775807 := by omega
  rw [HD.out]
  generalize a.natAbs = x at *
  generalize b.natAbs = y at *
  clear hA hB ea eb
  go_enter Tryd.func40, Tryd.ntmps40
  go_wp2_with fail
  (with_reducible refine (HA.out _).mono ?_)
  rintro e w' ⟨rfl, rfl⟩
  go_wp2_with fail
  (with_reducible refine (HB.out _).mono ?_)
  rintro e w' ⟨rfl, rfl⟩
  go_wp2
  go_loopw [0, 1] (fun a b wr => ∃ p q : Nat, p ≤ 9223372036854775807 ∧ q ≤ 9223372036854775807 ∧ a = .int .i64 (p : Int) ∧ b = .int .i64 (q : Int) ∧ Hid (Nat.gcd p q = Nat.gcd x y) ∧ Below w.heap.size w wr) (fun _ b _ => (intOf b).toNat)
  case atStart => exact ⟨x, y, hx, hy, rfl, rfl, Lib.hid rfl, Below.refl _ _⟩
  case round =>
    obtain ⟨p, q, hp, hq, rfl, rfl, hG, hB⟩ := hrel
    by_cases h0 : q = 0
    · subst h0
      have HG := Lib.hid (hG.out.symm.trans (Nat.gcd_zero_right p))
      go_wp2
      go_ret
      exact ⟨ret_int (by rw [HG.out]), hB⟩
    · have h0' : ((q : Int) == 0) = false := by rw [beq_eq_false_iff_ne]; omega
      have h0n : ((q : Int) != 0) = true := by rw [bne_iff_ne]; omega
      have h1 : ¬ (q : Int) = 0 := by omega
      have hlt : p % q < q := Nat.mod_lt _ (by omega)
      have HG := Lib.hid (show Nat.gcd q (p % q) = Nat.gcd x y by rw [← hG.out, Nat.gcd_comm p q, Nat.gcd_rec q p, Nat.gcd_comm])
      go_wp2
      go_region
      all_goals go_wp2
      all_goals go_roundw
      case rel => exact ⟨q, p % q, hq, by omega, rfl, by simp, HG, hB.drew⟩
      case measure => simp [intOf]; omega

def roV (r : Ro) : Value := .tuple #[.agg #[.int .i64 r.n, .int .i64 r.d], .bool r.ok]
def raV (n d : Int) : Value := .agg #[.int .i64 n, .int .i64 d]

set_option maxRecDepth 100000 in
set_option maxHeartbeats 1000000 in
theorem iRatValid (n d : Int) (w : World) : Calls Tryd.prog 38 #[.agg #[.int .i64 n, .int .i64 d]] w (Gives (.bool (ratOk n d)) w) := by
  by_cases h1 : 1 ≤ d ∧ d ≤ 1000000000
  · by_cases h2 : -1000000000 ≤ n ∧ n ≤ 1000000000
    · have HR := Lib.hid (ratOk_in h1 h2)
      obtain ⟨h1a, h1b⟩ := h1
      obtain ⟨h2a, h2b⟩ := h2
      have HD := Lib.hid (fun W => divisor n d W ⟨by omega, by omega⟩ ⟨by omega, by omega⟩)
      generalize Int.gcd n d = g at *
      by_cases hg : g = 1
      · subst hg
        go_enter Tryd.func38, Tryd.ntmps38
        go_wp2_with fail
        (with_reducible refine (HD.out _).mono ?_)
        rintro e w1 ⟨rfl, b1⟩
        have hz1 := b1.size
        obtain ⟨hc1, hf1⟩ := bcell b1
        have B1 : Below w.heap.size w w1 := Below.trans (by repeat (first | (with_reducible refine Below.drew ?_) | (with_reducible refine below_drewN ?_ _) | (with_reducible refine Below.alloc ?_ ?_ _) | (with_reducible refine Below.setCell ?_ ?_ _) | (with_reducible assumption) | (with_reducible exact Below.refl _ _) | omega | (simp <;> omega))) (b1.mono (by first | omega | (simp <;> omega)))
        (try simp at hz1)
        have hy1 : w.heap.size < w1.heap.size := by omega
        clear b1
        go_wp2
        go_ret
        exact ⟨ret_bool (by rw [HR.out]; rfl), (by repeat (first | (with_reducible refine Below.drew ?_) | (with_reducible refine below_drewN ?_ _) | (with_reducible refine Below.alloc ?_ ?_ _) | (with_reducible refine Below.setCell ?_ ?_ _) | (with_reducible assumption) | (with_reducible exact Below.refl _ _) | omega | (simp <;> omega)))⟩
      · have hg' : ((g : Int) == 1) = false := by rw [beq_eq_false_iff_ne]; omega
        go_enter Tryd.func38, Tryd.ntmps38
        go_wp2_with fail
        (with_reducible refine (HD.out _).mono ?_)
        rintro e w1 ⟨rfl, b1⟩
        have hz1 := b1.size
        obtain ⟨hc1, hf1⟩ := bcell b1
        have B1 : Below w.heap.size w w1 := Below.trans (by repeat (first | (with_reducible refine Below.drew ?_) | (with_reducible refine below_drewN ?_ _) | (with_reducible refine Below.alloc ?_ ?_ _) | (with_reducible refine Below.setCell ?_ ?_ _) | (with_reducible assumption) | (with_reducible exact Below.refl _ _) | omega | (simp <;> omega))) (b1.mono (by first | omega | (simp <;> omega)))
        (try simp at hz1)
        have hy1 : w.heap.size < w1.heap.size := by omega
        clear b1
        go_wp2
        go_ret
        exact ⟨ret_bool (by rw [HR.out]; simp [hg]), (by repeat (first | (with_reducible refine Below.drew ?_) | (with_reducible refine below_drewN ?_ _) | (with_reducible refine Below.alloc ?_ ?_ _) | (with_reducible refine Below.setCell ?_ ?_ _) | (with_reducible assumption) | (with_reducible exact Below.refl _ _) | omega | (simp <;> omega)))⟩
    · have HR := Lib.hid (ratOk_num (d := d) h2)
      obtain ⟨h1a, h1b⟩ := h1
      by_cases h2a : -1000000000 ≤ n
      all_goals
        go_enter Tryd.func38, Tryd.ntmps38
        go_wp2
        go_ret
        exact ⟨ret_bool (by rw [HR.out] <;> simp <;> omega), (by repeat (first | (with_reducible refine Below.drew ?_) | (with_reducible refine below_drewN ?_ _) | (with_reducible refine Below.alloc ?_ ?_ _) | (with_reducible refine Below.setCell ?_ ?_ _) | (with_reducible assumption) | (with_reducible exact Below.refl _ _) | omega | (simp <;> omega)))⟩
  · have HR := Lib.hid (ratOk_den (n := n) h1)
    by_cases h1a : 1 ≤ d
    all_goals
      go_enter Tryd.func38, Tryd.ntmps38
      go_wp2
      go_ret
      exact ⟨ret_bool (by rw [HR.out] <;> simp <;> omega), (by repeat (first | (with_reducible refine Below.drew ?_) | (with_reducible refine below_drewN ?_ _) | (with_reducible refine Below.alloc ?_ ?_ _) | (with_reducible refine Below.setCell ?_ ?_ _) | (with_reducible assumption) | (with_reducible exact Below.refl _ _) | omega | (simp <;> omega)))⟩
theorem ivalid_is {n d : Int} {r : Bool} (w : World) (h : ratOk n d = r) : Calls Tryd.prog 38 #[.agg #[.int .i64 n, .int .i64 d]] w (Gives (.bool r) w) := h ▸ iRatValid n d w

theorem mk_bad {num den : Int} (h : ratOk (num.tdiv (Int.gcd num den)) (den / (Int.gcd num den)) = false) : mkR num den = bad := by unfold mkR; rw [h]; rfl
theorem mk_good {num den : Int} (h : ratOk (num.tdiv (Int.gcd num den)) (den / (Int.gcd num den)) = true) : mkR num den = ⟨num.tdiv (Int.gcd num den), den / (Int.gcd num den), true⟩ := by unfold mkR; rw [h]; rfl

set_option maxRecDepth 100000 in
set_option maxHeartbeats 1000000 in
theorem iRatOf (num den : Int) (w : World) (hn : -4000000000000000000 ≤ num ∧ num ≤ 4000000000000000000) (hd : 1 ≤ den ∧ den ≤ 4000000000000000000) :
    Calls Tryd.prog 18 #[.int .i64 num, .int .i64 den] w (Gives (roV (mkR num den)) w) := by
  obtain ⟨hn1, hn2⟩ := hn
  obtain ⟨hd1, hd2⟩ := hd
  have hgp := gcd_pos (a := num) hd1
  have HD := Lib.hid (fun W => divisor num den W ⟨by omega, by omega⟩ ⟨by omega, by omega⟩)
  have hbad := mk_bad (num := num) (den := den)
  have hgood := mk_good (num := num) (den := den)
  generalize Int.gcd num den = g at *
  obtain ⟨q1, q2⟩ := tdiv_bd (a := num) (g := (g : Int)) (by omega) 4000000000000000000 hn1 hn2
  obtain ⟨q3, q4⟩ := ediv_bd (a := den) (g := (g : Int)) (by omega) 4000000000000000000 (by omega) hd2
  have hg0 : ¬ (g : Int) = 0 := by omega
  have hg0' : ((g : Int) == 0) = false := by rw [beq_eq_false_iff_ne]; omega
  have hg1 : ¬ (g : Int) = -1 := by omega
  have hd0 : (den == 0) = false := by rw [beq_eq_false_iff_ne]; omega
  have e1 : decide (num < -4000000000000000000) = false := decide_eq_false (by omega)
  have e2 : decide (4000000000000000000 < num) = false := decide_eq_false (by omega)
  have e3 : decide (den < -4000000000000000000) = false := decide_eq_false (by omega)
  have e4 : decide (4000000000000000000 < den) = false := decide_eq_false (by omega)
  have e5 : decide (den < 0) = false := decide_eq_false (by omega)
  cases hok : ratOk (num.tdiv g) (den / g)
  · have HR := Lib.hid (hbad hok)
    have HV := Lib.hid (fun W => ivalid_is W hok)
    clear hbad hgood hok
    go_enter Tryd.func18, Tryd.ntmps18
    go_wp2_with fail
    (with_reducible refine (HD.out _).mono ?_)
    rintro e w1 ⟨rfl, b1⟩
    have hz1 := b1.size
    obtain ⟨hc1, hf1⟩ := bcell b1
    have B1 : Below w.heap.size w w1 := Below.trans (by repeat (first | (with_reducible refine Below.drew ?_) | (with_reducible refine below_drewN ?_ _) | (with_reducible refine Below.alloc ?_ ?_ _) | (with_reducible refine Below.setCell ?_ ?_ _) | (with_reducible assumption) | (with_reducible exact Below.refl _ _) | omega | (simp <;> omega))) (b1.mono (by first | omega | (simp <;> omega)))
    (try simp at hz1)
    have hy1 : w.heap.size < w1.heap.size := by omega
    clear b1
    go_wp2
    go_region
    go_wp2_with fail
    (with_reducible refine (HV.out _).mono ?_)
    rintro e w2 ⟨rfl, b2⟩
    have hz2 := b2.size
    obtain ⟨hc2, hf2⟩ := bcell b2
    have B2 : Below w.heap.size w w2 := Below.trans (by repeat (first | (with_reducible refine Below.drew ?_) | (with_reducible refine below_drewN ?_ _) | (with_reducible refine Below.alloc ?_ ?_ _) | (with_reducible refine Below.setCell ?_ ?_ _) | (with_reducible assumption) | (with_reducible exact Below.refl _ _) | omega | (simp <;> omega))) (b2.mono (by first | omega | (simp <;> omega)))
    (try simp at hz2)
    have hy2 : w.heap.size < w2.heap.size := by omega
    clear b2
    have kc2_0_0 : w2.cell? ⟨w.heap.size, 0, none⟩ = some (.int .i64 0) := (hc2 (w.heap.size) 0 (by first | omega | (simp <;> omega))).trans (by first | (simp; done) | (simp [*]; done) | (simp [*, World.cell?_alloc_at, World.cell?_alloc_past, World.cell?_alloc_lt, lt2, lt3, lt4]; done))
    have kc2_1_0 : w2.cell? ⟨w.heap.size, 1, none⟩ = some (.int .i64 0) := (hc2 (w.heap.size) 1 (by first | omega | (simp <;> omega))).trans (by first | (simp; done) | (simp [*]; done) | (simp [*, World.cell?_alloc_at, World.cell?_alloc_past, World.cell?_alloc_lt, lt2, lt3, lt4]; done))
    go_wp2
    refine bodyPost_ret (v := .tuple #[.agg #[.int .i64 (0), .int .i64 (0)], .bool false]) (by simp [results, Tryd.results18, go_sem, *, lt2, lt3, lt4, lt5, lt6]) rfl ⟨by rw [HR.out]; rfl, (by repeat (first | (with_reducible refine Below.drew ?_) | (with_reducible refine below_drewN ?_ _) | (with_reducible refine Below.alloc ?_ ?_ _) | (with_reducible refine Below.setCell ?_ ?_ _) | (with_reducible assumption) | (with_reducible exact Below.refl _ _) | omega | (simp <;> omega)))⟩
  · have HR := Lib.hid (hgood hok)
    have HV := Lib.hid (fun W => ivalid_is W hok)
    clear hbad hgood hok
    go_enter Tryd.func18, Tryd.ntmps18
    go_wp2_with fail
    (with_reducible refine (HD.out _).mono ?_)
    rintro e w1 ⟨rfl, b1⟩
    have hz1 := b1.size
    obtain ⟨hc1, hf1⟩ := bcell b1
    have B1 : Below w.heap.size w w1 := Below.trans (by repeat (first | (with_reducible refine Below.drew ?_) | (with_reducible refine below_drewN ?_ _) | (with_reducible refine Below.alloc ?_ ?_ _) | (with_reducible refine Below.setCell ?_ ?_ _) | (with_reducible assumption) | (with_reducible exact Below.refl _ _) | omega | (simp <;> omega))) (b1.mono (by first | omega | (simp <;> omega)))
    (try simp at hz1)
    have hy1 : w.heap.size < w1.heap.size := by omega
    clear b1
    go_wp2
    go_region
    go_wp2_with fail
    (with_reducible refine (HV.out _).mono ?_)
    rintro e w2 ⟨rfl, b2⟩
    have hz2 := b2.size
    obtain ⟨hc2, hf2⟩ := bcell b2
    have B2 : Below w.heap.size w w2 := Below.trans (by repeat (first | (with_reducible refine Below.drew ?_) | (with_reducible refine below_drewN ?_ _) | (with_reducible refine Below.alloc ?_ ?_ _) | (with_reducible refine Below.setCell ?_ ?_ _) | (with_reducible assumption) | (with_reducible exact Below.refl _ _) | omega | (simp <;> omega))) (b2.mono (by first | omega | (simp <;> omega)))
    (try simp at hz2)
    have hy2 : w.heap.size < w2.heap.size := by omega
    clear b2
    have kc2_0_0 : w2.cell? ⟨w.heap.size, 0, none⟩ = some (.int .i64 0) := (hc2 (w.heap.size) 0 (by first | omega | (simp <;> omega))).trans (by first | (simp; done) | (simp [*]; done) | (simp [*, World.cell?_alloc_at, World.cell?_alloc_past, World.cell?_alloc_lt, lt2, lt3, lt4]; done))
    have kc2_1_0 : w2.cell? ⟨w.heap.size, 1, none⟩ = some (.int .i64 0) := (hc2 (w.heap.size) 1 (by first | omega | (simp <;> omega))).trans (by first | (simp; done) | (simp [*]; done) | (simp [*, World.cell?_alloc_at, World.cell?_alloc_past, World.cell?_alloc_lt, lt2, lt3, lt4]; done))
    go_wp2
    refine bodyPost_ret (v := .tuple #[.agg #[.int .i64 (num.tdiv g), .int .i64 (den / g)], .bool true]) (by simp [results, Tryd.results18, go_sem, *, lt2, lt3, lt4, lt5, lt6]) rfl ⟨by rw [HR.out]; rfl, (by repeat (first | (with_reducible refine Below.drew ?_) | (with_reducible refine below_drewN ?_ _) | (with_reducible refine Below.alloc ?_ ?_ _) | (with_reducible refine Below.setCell ?_ ?_ _) | (with_reducible assumption) | (with_reducible exact Below.refl _ _) | omega | (simp <;> omega)))⟩

end Go.Proofs.YtpollgibgphipaaDoor.Rat
