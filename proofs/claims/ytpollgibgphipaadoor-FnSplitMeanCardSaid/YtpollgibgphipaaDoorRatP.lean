/-
  Rationals in lowest terms: the plain functions and their laws.
-/
namespace Go.Proofs.YtpollgibgphipaaDoor.RatP
set_option linter.unusedVariables false
set_option linter.unusedSimpArgs false
def ratOk (n d : Int) : Bool := decide ((1 ≤ d ∧ d ≤ 1000000000) ∧ (-1000000000 ≤ n ∧ n ≤ 1000000000) ∧ Int.gcd n d = 1)
theorem ratOk_true {n d : Int} : ratOk n d = true ↔ (1 ≤ d ∧ d ≤ 1000000000) ∧ (-1000000000 ≤ n ∧ n ≤ 1000000000) ∧ Int.gcd n d = 1 := by simp [ratOk]
structure Ro where
  n : Int
  d : Int
  ok : Bool
deriving DecidableEq
def bad : Ro := ⟨0, 0, false⟩
def nn (num den : Int) : Int := num.tdiv (Int.gcd num den)
def nd (num den : Int) : Int := den / (Int.gcd num den)
def mkR (num den : Int) : Ro := if ratOk (num.tdiv (Int.gcd num den)) (den / (Int.gcd num den)) = true then ⟨num.tdiv (Int.gcd num den), den / (Int.gcd num den), true⟩ else bad
theorem gcd_pos {a b : Int} (h : 1 ≤ b) : 1 ≤ Int.gcd a b := by
  have := Int.gcd_pos_of_ne_zero_right a (b := b) (by omega)
  omega
theorem nn_mul {a b : Int} (_h : 1 ≤ b) : nn a b * (Int.gcd a b : Int) = a := by
  unfold nn
  exact Int.tdiv_mul_cancel (Int.gcd_dvd_left a b)
theorem nd_mul {a b : Int} (_h : 1 ≤ b) : nd a b * (Int.gcd a b : Int) = b := by
  unfold nd
  exact Int.ediv_mul_cancel (Int.gcd_dvd_right a b)
theorem nd_pos {a b : Int} (h : 1 ≤ b) : 1 ≤ nd a b := by
  have h1 := nd_mul (a := a) h
  have h2 := gcd_pos (a := a) h
  rcases Int.lt_or_le 0 (nd a b) with h3 | h3
  · omega
  · have := Int.mul_nonpos_of_nonpos_of_nonneg (a := nd a b) (b := (Int.gcd a b : Int)) h3 (by omega)
    omega
theorem cop {a b : Int} (h : 1 ≤ b) : Int.gcd (nn a b) (nd a b) = 1 := by
  have h1 := nn_mul (a := a) h
  have h2 := nd_mul (a := a) h
  have h3 := gcd_pos (a := a) h
  have h4 : Int.gcd (nn a b * (Int.gcd a b : Int)) (nd a b * (Int.gcd a b : Int)) = Int.gcd (nn a b) (nd a b) * Int.gcd a b := by
    rw [Int.gcd_mul_right]; simp
  rw [h1, h2] at h4
  exact Nat.eq_of_mul_eq_mul_right (by omega) (by omega : _ * Int.gcd a b = 1 * Int.gcd a b)
theorem cross {a b : Int} (h : 1 ≤ b) : nn a b * b = a * nd a b := by
  have h1 := nn_mul (a := a) h
  have h2 := nd_mul (a := a) h
  have e1 : nn a b * b = nn a b * (nd a b * (Int.gcd a b : Int)) := by rw [h2]
  have e2 : a * nd a b = nn a b * (Int.gcd a b : Int) * nd a b := by rw [h1]
  rw [e1, e2, Int.mul_assoc, Int.mul_comm (nd a b)]
theorem uniq {a b c d : Int} (hb : 1 ≤ b) (hd : 1 ≤ d) (h1 : Int.gcd a b = 1) (h2 : Int.gcd c d = 1) (h : a * d = c * b) : a = c ∧ b = d := by
  have e1 : b ∣ d := by
    have : b ∣ a * d := ⟨c, by rw [h, Int.mul_comm]⟩
    have := Int.dvd_gcd_mul_iff_dvd_mul.2 this
    rwa [Int.gcd_comm, h1, Int.natCast_one, Int.one_mul] at this
  have e2 : d ∣ b := by
    have : d ∣ c * b := ⟨a, by rw [← h, Int.mul_comm]⟩
    have := Int.dvd_gcd_mul_iff_dvd_mul.2 this
    rwa [Int.gcd_comm, h2, Int.natCast_one, Int.one_mul] at this
  have l1 := Int.le_of_dvd (by omega) e1
  have l2 := Int.le_of_dvd (by omega) e2
  obtain rfl : b = d := by omega
  exact ⟨Int.eq_of_mul_eq_mul_right (by omega) h, rfl⟩
theorem mul_right_inj {a b c : Int} (hc : 1 ≤ c) (h : a * c = b * c) : a = b := Int.eq_of_mul_eq_mul_right (by omega) h
theorem nrm_eq {a b c d : Int} (hb : 1 ≤ b) (hd : 1 ≤ d) (h : a * d = c * b) : nn a b = nn c d ∧ nd a b = nd c d := by
  refine uniq (nd_pos hb) (nd_pos hd) (cop hb) (cop hd) ?_
  -- nn a b * nd c d = nn c d * nd a b
  have h1 := cross (a := a) hb
  have h2 := cross (a := c) hd
  refine mul_right_inj (c := b * d) (by have := Int.mul_pos (a := b) (b := d) (by omega) (by omega); omega) ?_
  calc nn a b * nd c d * (b * d) = (nn a b * b) * (nd c d * d) := by simp only [Int.mul_assoc, Int.mul_left_comm, Int.mul_comm]
    _ = (a * nd a b) * (nd c d * d) := by rw [h1]
    _ = (a * d) * (nd a b * nd c d) := by simp only [Int.mul_assoc, Int.mul_left_comm, Int.mul_comm]
    _ = (c * b) * (nd a b * nd c d) := by rw [h]
    _ = (c * nd c d) * (nd a b * b) := by simp only [Int.mul_assoc, Int.mul_left_comm, Int.mul_comm]
    _ = (nn c d * d) * (nd a b * b) := by rw [h2]
    _ = nn c d * nd a b * (b * d) := by simp only [Int.mul_assoc, Int.mul_left_comm, Int.mul_comm]
theorem nrm_inv {a b c d : Int} (hb : 1 ≤ b) (hd : 1 ≤ d) (h1 : nn a b = nn c d) (h2 : nd a b = nd c d) : a * d = c * b := by
  have e1 := nn_mul (a := a) hb
  have e2 := nd_mul (a := a) hb
  have e3 := nn_mul (a := c) hd
  have e4 := nd_mul (a := c) hd
  calc a * d = (nn a b * (Int.gcd a b : Int)) * (nd c d * (Int.gcd c d : Int)) := by rw [e1, e4]
    _ = (nn c d * (Int.gcd c d : Int)) * (nd a b * (Int.gcd a b : Int)) := by rw [h1, h2]; simp only [Int.mul_assoc, Int.mul_left_comm, Int.mul_comm]
    _ = c * b := by rw [e3, e2]
theorem nn_bd {a b : Int} (_hb : 1 ≤ b) {M : Int} (h1 : -M ≤ a) (h2 : a ≤ M) : -M ≤ nn a b ∧ nn a b ≤ M := by
  have h := Int.natAbs_tdiv_le_natAbs a (Int.gcd a b : Int)
  unfold nn
  omega
theorem nd_bd {a b : Int} (hb : 1 ≤ b) : nd a b ≤ b := Int.ediv_le_self _ (by omega)
/-- small numbers: the quotient is a valid rational -/
def Sm (a b : Int) : Prop := (-1000000000 ≤ a ∧ a ≤ 1000000000) ∧ (1 ≤ b ∧ b ≤ 1000000000)
theorem ok_of {a b : Int} (h : Sm a b) : ratOk (nn a b) (nd a b) = true := by
  obtain ⟨⟨h1, h2⟩, h3, h4⟩ := h
  exact ratOk_true.2 ⟨⟨nd_pos h3, Int.le_trans (nd_bd h3) h4⟩, nn_bd h3 h1 h2, cop h3⟩
theorem mk_of {a b : Int} (h : Sm a b) : mkR a b = ⟨nn a b, nd a b, true⟩ := by
  have := ok_of h
  unfold nn nd at this
  unfold mkR
  rw [if_pos this]; rfl
theorem mk_congr {a b c d : Int} (hb : 1 ≤ b) (hd : 1 ≤ d) (h : a * d = c * b) : mkR a b = mkR c d := by
  obtain ⟨e1, e2⟩ := nrm_eq hb hd h
  unfold nn at e1
  unfold nd at e2
  unfold mkR
  rw [e1, e2]
def addR (a b c d : Int) : Ro := if ratOk a b = true ∧ ratOk c d = true then mkR (a * d + c * b) (b * d) else bad
def subR (a b c d : Int) : Ro := if ratOk a b = true ∧ ratOk c d = true then mkR (a * d - c * b) (b * d) else bad
def mulR (a b c d : Int) : Ro := if ratOk a b = true ∧ ratOk c d = true then mkR (a * c) (b * d) else bad
def lessR (a b c d : Int) : Bool := decide (ratOk a b = true ∧ ratOk c d = true ∧ a * d < c * b)
def addQ (x y : Ro) : Ro := addR x.n x.d y.n y.d
def subQ (x y : Ro) : Ro := subR x.n x.d y.n y.d
def mulQ (x y : Ro) : Ro := mulR x.n x.d y.n y.d
def lessQ (x y : Ro) : Bool := lessR x.n x.d y.n y.d
theorem mul_pos1 {b d : Int} (h1 : 1 ≤ b) (h2 : 1 ≤ d) : 1 ≤ b * d := by
  have := Int.mul_pos (a := b) (b := d) (by omega) (by omega)
  omega
theorem add_mk {a b c d : Int} (h1 : Sm a b) (h2 : Sm c d) : addQ (mkR a b) (mkR c d) = mkR (a * d + c * b) (b * d) := by
  have hb := h1.2.1
  have hd := h2.2.1
  rw [mk_of h1, mk_of h2]
  show addR (nn a b) (nd a b) (nn c d) (nd c d) = _
  unfold addR
  rw [if_pos ⟨ok_of h1, ok_of h2⟩]
  refine mk_congr (mul_pos1 (nd_pos hb) (nd_pos hd)) (mul_pos1 hb hd) ?_
  have e1 := cross (a := a) hb
  have e2 := cross (a := c) hd
  rw [Int.add_mul, Int.add_mul]
  congr 1
  · calc nn a b * nd c d * (b * d) = (nn a b * b) * (nd c d * d) := by simp only [Int.mul_assoc, Int.mul_left_comm, Int.mul_comm]
      _ = (a * nd a b) * (nd c d * d) := by rw [e1]
      _ = a * d * (nd a b * nd c d) := by simp only [Int.mul_assoc, Int.mul_left_comm, Int.mul_comm]
  · calc nn c d * nd a b * (b * d) = (nn c d * d) * (nd a b * b) := by simp only [Int.mul_assoc, Int.mul_left_comm, Int.mul_comm]
      _ = (c * nd c d) * (nd a b * b) := by rw [e2]
      _ = c * b * (nd a b * nd c d) := by simp only [Int.mul_assoc, Int.mul_left_comm, Int.mul_comm]
theorem nn_neg (c d : Int) : nn (-c) d = -nn c d := by unfold nn; rw [Int.neg_gcd, Int.neg_tdiv]
theorem nd_neg (c d : Int) : nd (-c) d = nd c d := by unfold nd; rw [Int.neg_gcd]
theorem ratOk_neg (n d : Int) : ratOk (-n) d = ratOk n d := by
  unfold ratOk
  rw [Int.neg_gcd]
  apply decide_eq_decide.2
  constructor
  · rintro ⟨h1, h2, h3⟩; exact ⟨h1, by omega, h3⟩
  · rintro ⟨h1, h2, h3⟩; exact ⟨h1, by omega, h3⟩
theorem sub_add (a b c d : Int) : addR a b (-c) d = subR a b c d := by
  unfold addR subR
  rw [ratOk_neg, show a * d + -c * b = a * d - c * b by rw [Int.neg_mul]; omega]
theorem sub_mk {a b c d : Int} (h1 : Sm a b) (h2 : Sm c d) : subQ (mkR a b) (mkR c d) = mkR (a * d - c * b) (b * d) := by
  have h3 : Sm (-c) d := ⟨⟨by have := h2.1; omega, by have := h2.1; omega⟩, h2.2⟩
  have h := add_mk h1 h3
  rw [mk_of h2]
  rw [mk_of h3] at h
  show subR (mkR a b).n (mkR a b).d (nn c d) (nd c d) = _
  rw [← sub_add]
  unfold addQ at h
  simp only [nn_neg, nd_neg] at h
  rw [h, Int.neg_mul]; rfl
theorem mul_mk {a b c d : Int} (h1 : Sm a b) (h2 : Sm c d) : mulQ (mkR a b) (mkR c d) = mkR (a * c) (b * d) := by
  have hb := h1.2.1
  have hd := h2.2.1
  rw [mk_of h1, mk_of h2]
  show mulR (nn a b) (nd a b) (nn c d) (nd c d) = _
  unfold mulR
  rw [if_pos ⟨ok_of h1, ok_of h2⟩]
  refine mk_congr (mul_pos1 (nd_pos hb) (nd_pos hd)) (mul_pos1 hb hd) ?_
  have e1 := cross (a := a) hb
  have e2 := cross (a := c) hd
  calc nn a b * nn c d * (b * d) = (nn a b * b) * (nn c d * d) := by simp only [Int.mul_assoc, Int.mul_left_comm, Int.mul_comm]
    _ = (a * nd a b) * (c * nd c d) := by rw [e1, e2]
    _ = a * c * (nd a b * nd c d) := by simp only [Int.mul_assoc, Int.mul_left_comm, Int.mul_comm]
theorem lt_mul_right {a b c : Int} (hc : 1 ≤ c) : a * c < b * c ↔ a < b :=
  ⟨fun h => Int.lt_of_mul_lt_mul_right h (by omega), fun h => Int.mul_lt_mul_of_pos_right h (by omega)⟩
theorem less_mk {a b c d : Int} (h1 : Sm a b) (h2 : Sm c d) : lessQ (mkR a b) (mkR c d) = decide (a * d < c * b) := by
  have hb := h1.2.1
  have hd := h2.2.1
  rw [mk_of h1, mk_of h2]
  show lessR (nn a b) (nd a b) (nn c d) (nd c d) = _
  unfold lessR
  apply decide_eq_decide.2
  have e1 := nn_mul (a := a) hb
  have e2 := nd_mul (a := a) hb
  have e3 := nn_mul (a := c) hd
  have e4 := nd_mul (a := c) hd
  have g1 := gcd_pos (a := a) hb
  have g2 := gcd_pos (a := c) hd
  have key : nn a b * nd c d * ((Int.gcd a b : Int) * (Int.gcd c d : Int)) = a * d := by
    calc _ = (nn a b * (Int.gcd a b : Int)) * (nd c d * (Int.gcd c d : Int)) := by simp only [Int.mul_assoc, Int.mul_left_comm, Int.mul_comm]
      _ = a * d := by rw [e1, e4]
  have key2 : nn c d * nd a b * ((Int.gcd a b : Int) * (Int.gcd c d : Int)) = c * b := by
    calc _ = (nn c d * (Int.gcd c d : Int)) * (nd a b * (Int.gcd a b : Int)) := by simp only [Int.mul_assoc, Int.mul_left_comm, Int.mul_comm]
      _ = c * b := by rw [e3, e2]
  rw [← key, ← key2, lt_mul_right (mul_pos1 (by omega) (by omega))]
  exact ⟨fun h => h.2.2, fun h => ⟨ok_of h1, ok_of h2, h⟩⟩
theorem cadd {a c D : Int} (h1 : Sm a D) (h2 : Sm c D) : addQ (mkR a D) (mkR c D) = mkR (a + c) D := by
  rw [add_mk h1 h2]
  exact mk_congr (mul_pos1 h1.2.1 h1.2.1) h1.2.1 (by rw [← Int.add_mul, Int.mul_assoc])
theorem csub {a c D : Int} (h1 : Sm a D) (h2 : Sm c D) : subQ (mkR a D) (mkR c D) = mkR (a - c) D := by
  rw [sub_mk h1 h2]
  exact mk_congr (mul_pos1 h1.2.1 h1.2.1) h1.2.1 (by rw [← Int.sub_mul, Int.mul_assoc])
theorem cless {a c D : Int} (h1 : Sm a D) (h2 : Sm c D) : lessQ (mkR a D) (mkR c D) = decide (a < c) := by
  rw [less_mk h1 h2]
  exact decide_eq_decide.2 (lt_mul_right h1.2.1)
theorem mk_zero {D : Int} (h : 1 ≤ D) : mkR 0 D = ⟨0, 1, true⟩ := by
  rw [mk_congr h (Int.le_refl 1) (show (0 : Int) * 1 = 0 * D by omega)]; rfl
theorem mk_whole (a : Int) (h : -1000000000 ≤ a ∧ a ≤ 1000000000) : mkR a 1 = ⟨a, 1, true⟩ := by
  rw [mk_of ⟨h, by omega⟩]
  have hg : Int.gcd a 1 = 1 := by simp
  unfold nn nd
  rw [hg]; simp
theorem nn_zero {a b : Int} (h : 1 ≤ b) : nn a b = 0 ↔ a = 0 := by
  have h1 := nn_mul (a := a) h
  constructor
  · intro h0; rw [h0] at h1; omega
  · rintro rfl; unfold nn; simp
/-- sums with a failure -/
def sumFrom (acc : Ro) : List Ro → Ro
  | [] => acc
  | x :: xs => if (addQ acc x).ok = true then sumFrom (addQ acc x) xs else bad
def total : List Int → Int
  | [] => 0
  | x :: xs => x + total xs
theorem total_append (xs ys : List Int) : total (xs ++ ys) = total xs + total ys := by
  induction xs with
  | nil => simp [total]
  | cons x xs ih => simp only [List.cons_append, total, ih]; omega
theorem total_nonneg {xs : List Int} (h : ∀ x ∈ xs, 0 ≤ x) : 0 ≤ total xs := by
  induction xs with
  | nil => simp [total]
  | cons x xs ih =>
    have := h x (by simp)
    have := ih (fun y hy => h y (by simp [hy]))
    simp only [total]; omega
theorem sum_mk {D : Int} (hD : 1 ≤ D ∧ D ≤ 1000000000) (xs : List Int) (a : Int) (ha : 0 ≤ a) (hx : ∀ x ∈ xs, 0 ≤ x) (hs : a + total xs ≤ 1000000000) :
    sumFrom (mkR a D) (xs.map fun x => mkR x D) = mkR (a + total xs) D := by
  induction xs generalizing a with
  | nil => simp [sumFrom, total]
  | cons x xs ih =>
    have hx0 := hx x (by simp)
    have hr := total_nonneg (xs := xs) (fun y hy => hx y (by simp [hy]))
    simp only [total] at hs ⊢
    have e := cadd (a := a) (c := x) (D := D) ⟨by omega, hD⟩ ⟨by omega, hD⟩
    show (if (addQ (mkR a D) (mkR x D)).ok = true then sumFrom (addQ (mkR a D) (mkR x D)) (xs.map _) else bad) = _
    rw [e, mk_of (a := a + x) (b := D) ⟨by omega, hD⟩, if_pos rfl, ← mk_of (a := a + x) (b := D) ⟨by omega, hD⟩, ih (a + x) (by omega) (fun y hy => hx y (by simp [hy])) (by omega), Int.add_assoc]
theorem sumFrom_append (acc : Ro) (xs ys : List Ro) (h : (sumFrom acc xs).ok = true) : sumFrom acc (xs ++ ys) = sumFrom (sumFrom acc xs) ys := by
  induction xs generalizing acc with
  | nil => rfl
  | cons x xs ih =>
    simp only [List.cons_append, sumFrom] at h ⊢
    split
    · rename_i h0
      rw [if_pos h0] at h
      exact ih _ h
    · rename_i h0
      rw [if_neg h0] at h
      cases h
end Go.Proofs.YtpollgibgphipaaDoor.RatP
