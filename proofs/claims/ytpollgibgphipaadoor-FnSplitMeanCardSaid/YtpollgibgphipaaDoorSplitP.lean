/-
  Components of a line: the plain functions and their laws.
-/
import Derived.Test.YtpollgibgphipaaDoorChoP
import Derived.Test.YtpollgibgphipaaDoorSplitDef
namespace Go.Proofs.YtpollgibgphipaaDoor.SplitP
open Go.Proofs.YtpollgibgphipaaDoor.RatP Go.Proofs.YtpollgibgphipaaDoor.Spin Go.Proofs.YtpollgibgphipaaDoor.ChoP Go.Proofs.YtpollgibgphipaaDoor.SplitPlain
set_option linter.unusedVariables false
set_option linter.unusedSimpArgs false
def proj (j : Int) : List Int := (List.range (j.toNat + 1)).map fun (k : Nat) => -j + 2 * (k : Int)
def near (u l : Int) : Bool := decide (-2 ≤ u - l ∧ u - l ≤ 2)
def comps (jx jy : Int) : List (Int × Int) := (proj jx).flatMap fun u => ((proj jy).filter fun l => near u l).map fun l => (u, l)
/-- the strength of a component, in 420ths -/
def str420 (jx jy u l : Int) : Int := csum jy 2 jx l (u - l) * csum jy 2 jx l (u - l) * cnum jy 2 jx * 420 / cden jy 2 jx l (u - l)
/-- all components of all pairs of angular momenta -/
def every (p : Int → Int → Int → Int → Bool) : Bool := js.all fun x => js.all fun y => !tri y 2 x || (comps x y).all fun c => p x y c.1 c.2
theorem str_all : every (fun x y u l => decide ((0 ≤ str420 x y u l ∧ str420 x y u l ≤ 420) ∧ str420 x y u l * cden y 2 x l (u - l) = csum y 2 x l (u - l) * csum y 2 x l (u - l) * cnum y 2 x * 420 ∧ (1 ≤ cden y 2 x l (u - l) ∧ cden y 2 x l (u - l) ≤ 1000000) ∧ (1 ≤ cnum y 2 x ∧ cnum y 2 x ≤ 1000000) ∧ (-1000 ≤ csum y 2 x l (u - l) ∧ csum y 2 x l (u - l) ≤ 1000))) = true := by decide +kernel
theorem every_at {p : Int → Int → Int → Int → Bool} (h : every p = true) {x y : Int} (hx : 0 ≤ x ∧ x ≤ 6) (hy : 0 ≤ y ∧ y ≤ 6) (ht : tri y 2 x = true) {c : Int × Int} (hc : c ∈ comps x y) : p x y c.1 c.2 = true := by
  have h1 := List.all_eq_true.1 (List.all_eq_true.1 h x (mem_js hx)) y (mem_js hy)
  rw [ht] at h1
  have h2 : ((comps x y).all fun c => p x y c.1 c.2) = true := h1
  exact List.all_eq_true.1 h2 c hc
/-- all pairs of angular momenta -/
def pairs (p : Int → Int → Bool) : Bool := js.all fun x => js.all fun y => !tri y 2 x || p x y
theorem pairs_at {p : Int → Int → Bool} (h : pairs p = true) {x y : Int} (hx : 0 ≤ x ∧ x ≤ 6) (hy : 0 ≤ y ∧ y ≤ 6) (ht : tri y 2 x = true) : p x y = true := by
  have h1 := List.all_eq_true.1 (List.all_eq_true.1 h x (mem_js hx)) y (mem_js hy)
  rw [ht] at h1
  simpa using h1
def gd (j : Int) : Int := if j = 0 then 1 else 2 * (j * (j + 2))
def gn (s l j : Int) : Int := if j = 0 then 0 else 3 * (j * (j + 2)) + s * (s + 2) - 2 * l * (2 * l + 2)
theorem levels_bd : ((List.range 9).all fun s => (List.range 9).all fun l => (List.range 7).all fun j => !levelOk s l j || decide (-16 ≤ gn s l j ∧ gn s l j ≤ 216)) = true := by decide +kernel
theorem gn_bd {s l j : Int} (h : levelOk s l j = true) (hj : j ≤ 6) : -16 ≤ gn s l j ∧ gn s l j ≤ 216 := by
  have h0 := h
  unfold levelOk termOk tri at h0
  simp at h0
  obtain ⟨⟨⟨a1, a2⟩, a3, a4⟩, b1, b2, ⟨b3, b4⟩, b5⟩ := h0
  have h1 := List.all_eq_true.1 (List.all_eq_true.1 (List.all_eq_true.1 levels_bd s.toNat (by simp; omega)) l.toNat (by simp; omega)) j.toNat (by simp; omega)
  rw [Int.toNat_of_nonneg a1, Int.toNat_of_nonneg a3, Int.toNat_of_nonneg b3, h] at h1
  simpa using h1
theorem gd_bd {j : Int} (h : 0 ≤ j ∧ j ≤ 6) : 1 ≤ gd j ∧ gd j ≤ 96 := by
  obtain rfl | rfl | rfl | rfl | rfl | rfl | rfl : j = 0 ∨ j = 1 ∨ j = 2 ∨ j = 3 ∨ j = 4 ∨ j = 5 ∨ j = 6 := by omega
  all_goals decide
def shN (a b c d u l : Int) : Int := a * u * (d * 2) - c * l * (b * 2)
def shD (b d : Int) : Int := b * 2 * (d * 2)
def shR (jx jy a c u l : Int) : Ro := mkR (shN a (gd jx) c (gd jy) u l) (shD (gd jx) (gd jy))
def stR (jx jy u l : Int) : Ro := mkR (str420 jx jy u l) 420
def spOf (jx jy a c : Int) (x : Int × Int) : Sp := ⟨x.1, x.2, (shR jx jy a c x.1 x.2).n, (shR jx jy a c x.1 x.2).d, (stR jx jy x.1 x.2).n, (stR jx jy x.1 x.2).d⟩
def splitL (jx jy a c : Int) : List Sp := (comps jx jy).map (spOf jx jy a c)
theorem comps_bd : every (fun x y u l => decide ((-6 ≤ u ∧ u ≤ 6) ∧ (-6 ≤ l ∧ l ≤ 6) ∧ (-x ≤ u ∧ u ≤ x ∧ (u - x) % 2 = 0) ∧ (-y ≤ l ∧ l ≤ y ∧ (l - y) % 2 = 0) ∧ (u - l = -2 ∨ u - l = 0 ∨ u - l = 2))) = true := by decide +kernel
theorem shN_bd {a b c d u l : Int} (ha : -216 ≤ a ∧ a ≤ 216) (hb : 1 ≤ b ∧ b ≤ 96) (hc : -216 ≤ c ∧ c ≤ 216) (hd : 1 ≤ d ∧ d ≤ 96) (hu : -6 ≤ u ∧ u ≤ 6) (hl : -6 ≤ l ∧ l ≤ 6) : -497664 ≤ shN a b c d u l ∧ shN a b c d u l ≤ 497664 := by
  have h1 := mul_bds (a := a) (b := u) (A := 216) (B := 6) (by omega) ha.2 (by omega) hu.2 (by omega)
  have h2 := mul_bds (a := a * u) (b := d * 2) (A := 1296) (B := 192) (by omega) (by omega) (by omega) (by omega) (by omega)
  have h3 := mul_bds (a := c) (b := l) (A := 216) (B := 6) (by omega) hc.2 (by omega) hl.2 (by omega)
  have h4 := mul_bds (a := c * l) (b := b * 2) (A := 1296) (B := 192) (by omega) (by omega) (by omega) (by omega) (by omega)
  unfold shN
  omega
theorem shD_bd {b d : Int} (hb : 1 ≤ b ∧ b ≤ 96) (hd : 1 ≤ d ∧ d ≤ 96) : 1 ≤ shD b d ∧ shD b d ≤ 36864 := by
  have h1 := mul_pos1 (b := b * 2) (d := d * 2) (by omega) (by omega)
  have h2 := mul_bds (a := b * 2) (b := d * 2) (A := 192) (B := 192) (by omega) (by omega) (by omega) (by omega) (by omega)
  unfold shD
  omega
theorem sh_sm {a b c d u l : Int} (ha : -216 ≤ a ∧ a ≤ 216) (hb : 1 ≤ b ∧ b ≤ 96) (hc : -216 ≤ c ∧ c ≤ 216) (hd : 1 ≤ d ∧ d ≤ 96) (hu : -6 ≤ u ∧ u ≤ 6) (hl : -6 ≤ l ∧ l ≤ 6) : Sm (shN a b c d u l) (shD b d) := by
  have h1 := shN_bd ha hb hc hd hu hl
  have h2 := shD_bd hb hd
  exact ⟨by omega, by omega⟩
/-- the shift as the program reckons it -/
theorem sh_calc {a b c d u l : Int} (ha : -216 ≤ a ∧ a ≤ 216) (hb : 1 ≤ b ∧ b ≤ 96) (hc : -216 ≤ c ∧ c ≤ 216) (hd : 1 ≤ d ∧ d ≤ 96) (hu : -6 ≤ u ∧ u ≤ 6) (hl : -6 ≤ l ∧ l ≤ 6) :
    mulQ (mkR a b) (mkR u 2) = mkR (a * u) (b * 2) ∧ mulQ (mkR c d) (mkR l 2) = mkR (c * l) (d * 2) ∧ Sm (a * u) (b * 2) ∧ Sm (c * l) (d * 2) ∧ subQ (mkR (a * u) (b * 2)) (mkR (c * l) (d * 2)) = mkR (shN a b c d u l) (shD b d) := by
  have h1 := mul_bds (a := a) (b := u) (A := 216) (B := 6) (by omega) ha.2 (by omega) hu.2 (by omega)
  have h3 := mul_bds (a := c) (b := l) (A := 216) (B := 6) (by omega) hc.2 (by omega) hl.2 (by omega)
  have s1 : Sm (a * u) (b * 2) := ⟨by omega, by omega⟩
  have s2 : Sm (c * l) (d * 2) := ⟨by omega, by omega⟩
  exact ⟨mul_mk ⟨by omega, by omega⟩ ⟨by omega, by omega⟩, mul_mk ⟨by omega, by omega⟩ ⟨by omega, by omega⟩, s1, s2, sub_mk s1 s2⟩
/-- the strength as the program reckons it -/
theorem st_calc {x y : Int} (hx : 0 ≤ x ∧ x ≤ 6) (hy : 0 ≤ y ∧ y ≤ 6) (ht : tri y 2 x = true) {c : Int × Int} (hc : c ∈ comps x y) : cq y 2 x c.2 (c.1 - c.2) = stR x y c.1 c.2 := by
  have h := of_decide_eq_true (every_at str_all hx hy ht hc)
  obtain ⟨_, h2, h3, _⟩ := h
  exact mk_congr (by omega) (by omega) (by rw [h2])
theorem st_sm {x y : Int} (hx : 0 ≤ x ∧ x ≤ 6) (hy : 0 ≤ y ∧ y ≤ 6) (ht : tri y 2 x = true) {c : Int × Int} (hc : c ∈ comps x y) : 0 ≤ str420 x y c.1 c.2 ∧ str420 x y c.1 c.2 ≤ 420 :=
  (of_decide_eq_true (every_at str_all hx hy ht hc)).1
structure Pair (x y a c : Int) : Prop where
  hx : 0 ≤ x ∧ x ≤ 6
  hy : 0 ≤ y ∧ y ≤ 6
  ht : tri y 2 x = true
  ha : -216 ≤ a ∧ a ≤ 216
  hc : -216 ≤ c ∧ c ≤ 216
theorem Pair.len {x y a c : Int} (_P : Pair x y a c) : (splitL x y a c).length = (comps x y).length := List.length_map _
theorem comps_len : pairs (fun x y => decide ((comps x y).length ≤ 19 ∧ 0 < (comps x y).length ∧ ((comps x y).length : Int) = if x = y then 3 * (min x y + 1) - 2 else 3 * (min x y + 1))) = true := by decide +kernel
theorem Pair.len_is {x y a c : Int} (P : Pair x y a c) : (splitL x y a c).length ≤ 19 ∧ 0 < (splitL x y a c).length ∧ ((splitL x y a c).length : Int) = if x = y then 3 * (min x y + 1) - 2 else 3 * (min x y + 1) := by
  rw [P.len]
  exact of_decide_eq_true (pairs_at comps_len P.hx P.hy P.ht)
theorem Pair.get {x y a c : Int} (P : Pair x y a c) {i : Nat} (hi : i < (splitL x y a c).length) : ∃ e, e ∈ comps x y ∧ (comps x y)[i]? = some e ∧ (splitL x y a c)[i] = spOf x y a c e := by
  have hi' : i < (comps x y).length := by rw [← P.len]; exact hi
  exact ⟨(comps x y)[i], List.getElem_mem hi', List.getElem?_eq_getElem hi', List.getElem_map _⟩
/-- a component is between projections -/
theorem Pair.bd {x y a c : Int} (P : Pair x y a c) {e : Int × Int} (he : e ∈ comps x y) : (-6 ≤ e.1 ∧ e.1 ≤ 6) ∧ (-6 ≤ e.2 ∧ e.2 ≤ 6) ∧ (-x ≤ e.1 ∧ e.1 ≤ x ∧ (e.1 - x) % 2 = 0) ∧ (-y ≤ e.2 ∧ e.2 ≤ y ∧ (e.2 - y) % 2 = 0) ∧ (e.1 - e.2 = -2 ∨ e.1 - e.2 = 0 ∨ e.1 - e.2 = 2) :=
  of_decide_eq_true (every_at comps_bd P.hx P.hy P.ht he)
theorem Pair.sm {x y a c : Int} (P : Pair x y a c) {e : Int × Int} (he : e ∈ comps x y) : Sm (shN a (gd x) c (gd y) e.1 e.2) (shD (gd x) (gd y)) :=
  sh_sm P.ha (gd_bd P.hx) P.hc (gd_bd P.hy) (P.bd he).1 (P.bd he).2.1
theorem Pair.st {x y a c : Int} (P : Pair x y a c) {e : Int × Int} (he : e ∈ comps x y) : Sm (str420 x y e.1 e.2) 420 ∧ 0 ≤ str420 x y e.1 e.2 := by
  have := st_sm P.hx P.hy P.ht he
  exact ⟨⟨by omega, by omega⟩, this.1⟩
/-- all components are valid rationals -/
theorem Pair.ok {x y a c : Int} (P : Pair x y a c) {e : Int × Int} (he : e ∈ comps x y) : (shR x y a c e.1 e.2).ok = true ∧ (stR x y e.1 e.2).ok = true := by
  unfold shR stR
  rw [mk_of (P.sm he), mk_of (P.st he).1]
  exact ⟨rfl, rfl⟩
/-! ### order -/
def sorted (l : List (Int × Int)) : Bool := match l with
  | [] => true
  | e :: t => (match t with
    | [] => true
    | f :: _ => decide (e.1 < f.1 ∨ e.1 = f.1 ∧ e.2 < f.2)) && sorted t
theorem sorted_at {l : List (Int × Int)} (h : sorted l = true) {i : Nat} {e f : Int × Int} (h1 : l[i]? = some e) (h2 : l[i + 1]? = some f) : e.1 < f.1 ∨ e.1 = f.1 ∧ e.2 < f.2 := by
  induction l generalizing i with
  | nil => simp at h1
  | cons a t ih =>
    unfold sorted at h
    rw [Bool.and_eq_true] at h
    cases i with
    | zero =>
      simp at h1 h2
      subst h1
      cases t with
      | nil => simp at h2
      | cons b t => simp at h2; subst h2; exact of_decide_eq_true h.1
    | succ i => exact ih h.2 (by simpa using h1) (by simpa using h2)
theorem comps_sorted : pairs (fun x y => sorted (comps x y)) = true := by decide +kernel
theorem Pair.sorted {x y a c : Int} (P : Pair x y a c) {i : Nat} (hi : i + 1 < (splitL x y a c).length) : (splitL x y a c)[i].u < (splitL x y a c)[i + 1].u ∨ (splitL x y a c)[i].u = (splitL x y a c)[i + 1].u ∧ (splitL x y a c)[i].l < (splitL x y a c)[i + 1].l := by
  obtain ⟨e, _, h1, h2⟩ := P.get (i := i) (by omega)
  obtain ⟨f, _, h3, h4⟩ := P.get (i := i + 1) hi
  rw [h2, h4]
  exact sorted_at (pairs_at comps_sorted P.hx P.hy P.ht) h1 h3
/-! ### mirror -/
theorem comps_mirror : pairs (fun x y => decide ((comps x y).reverse = (comps x y).map fun e => (-e.1, -e.2))) = true := by decide +kernel
theorem str_mirror : every (fun x y u l => decide (str420 x y (-u) (-l) = str420 x y u l)) = true := by decide +kernel
theorem shN_neg (a b c d u l : Int) : shN a b c d (-u) (-l) = -shN a b c d u l := by
  unfold shN
  rw [Int.mul_neg, Int.mul_neg, Int.neg_mul, Int.neg_mul]; omega
theorem mk_neg {a b : Int} (h : Sm a b) : mkR (-a) b = ⟨-(mkR a b).n, (mkR a b).d, true⟩ := by
  have h' : Sm (-a) b := ⟨by have := h.1; omega, h.2⟩
  rw [mk_of h, mk_of h', nn_neg, nd_neg]
theorem Pair.mirror {x y a c : Int} (P : Pair x y a c) {i k : Nat} (hi : i < (splitL x y a c).length) (hk : k < (splitL x y a c).length) (hik : i + k + 1 = (splitL x y a c).length) :
    (splitL x y a c)[i].u = 0 - (splitL x y a c)[k].u ∧ (splitL x y a c)[i].l = 0 - (splitL x y a c)[k].l ∧ (splitL x y a c)[i].p = 0 - (splitL x y a c)[k].p ∧ (splitL x y a c)[i].q = (splitL x y a c)[k].q ∧ (splitL x y a c)[i].s = (splitL x y a c)[k].s ∧ (splitL x y a c)[i].t = (splitL x y a c)[k].t := by
  obtain ⟨e, _, h1, h2⟩ := P.get hi
  obtain ⟨f, hf, h3, h4⟩ := P.get hk
  have hrev : (comps x y).reverse = (comps x y).map fun e => (-e.1, -e.2) := of_decide_eq_true (pairs_at comps_mirror P.hx P.hy P.ht)
  rw [P.len] at hi hk hik
  have h5 : (comps x y).reverse[k]? = some e := by
    rw [List.getElem?_reverse hk, ← h1]
    congr 1; omega
  rw [hrev, List.getElem?_map, h3] at h5
  obtain rfl : (-f.1, -f.2) = e := by simpa using h5
  rw [h2, h4]
  have hs : str420 x y (-f.1) (-f.2) = str420 x y f.1 f.2 := of_decide_eq_true (every_at str_mirror P.hx P.hy P.ht hf)
  have hm := mk_neg (P.sm hf)
  refine ⟨by simp [spOf], by simp [spOf], ?_, ?_, ?_, ?_⟩
  · simp only [spOf, shR, shN_neg, hm]; omega
  · simp only [spOf, shR, shN_neg, hm]
  · simp only [spOf, stR, hs]
  · simp only [spOf, stR, hs]
/-! ### the middle -/
theorem str_middle : every (fun x y u l => decide (u = 0 ∧ l = 0 → (str420 x y u l = 0 ↔ (x + y) / 2 % 2 = 0))) = true := by decide +kernel
theorem Pair.middle {x y a c : Int} (P : Pair x y a c) {i : Nat} (hi : i < (splitL x y a c).length) (hu : (splitL x y a c)[i].u = 0) (hl : (splitL x y a c)[i].l = 0) :
    (splitL x y a c)[i].p = 0 ∧ (splitL x y a c)[i].q = 1 ∧ ((splitL x y a c)[i].s = 0 ↔ (x + y) / 2 % 2 = 0) := by
  obtain ⟨e, he, h1, h2⟩ := P.get hi
  rw [h2] at hu hl ⊢
  have hu' : e.1 = 0 := hu
  have hl' : e.2 = 0 := hl
  have hm : (str420 x y e.1 e.2 = 0 ↔ (x + y) / 2 % 2 = 0) := of_decide_eq_true (every_at str_middle P.hx P.hy P.ht he) ⟨hu', hl'⟩
  have hz : shN a (gd x) c (gd y) e.1 e.2 = 0 := by unfold shN; rw [hu', hl']; simp
  have hsd := P.sm he
  have hb := (P.st he).1
  refine ⟨?_, ?_, ?_⟩
  · simp only [spOf, shR, hz, mk_zero hsd.2.1]
  · simp only [spOf, shR, hz, mk_zero hsd.2.1]
  · simp only [spOf, stR, mk_of hb]
    rw [nn_zero hb.2.1]; exact hm
/-! ### equal factors -/
theorem Pair.normal {x y a c : Int} (P : Pair x y a c) (hac : a * gd y = c * gd x) {i : Nat} (hi : i < (splitL x y a c).length) :
    mulQ (mkR a (gd x)) ⟨((splitL x y a c)[i].u - (splitL x y a c)[i].l) / 2, 1, true⟩ = ⟨(splitL x y a c)[i].p, (splitL x y a c)[i].q, true⟩ := by
  obtain ⟨e, he, h1, h2⟩ := P.get hi
  obtain ⟨_, _, _, _, h3⟩ := P.bd he
  have hg := gd_bd P.hx
  have ha := P.ha
  rw [h2]
  simp only [spOf, shR]
  have hd : -1 ≤ (e.1 - e.2) / 2 ∧ (e.1 - e.2) / 2 ≤ 1 ∧ (e.1 - e.2) / 2 * 2 = e.1 - e.2 := by omega
  rw [← mk_whole ((e.1 - e.2) / 2) (by omega), mul_mk (c := (e.1 - e.2) / 2) (d := 1) ⟨by omega, by omega⟩ ⟨by omega, by omega⟩]
  have hs := P.sm he
  have e1 : mkR (a * ((e.1 - e.2) / 2)) (gd x * 1) = mkR (shN a (gd x) c (gd y) e.1 e.2) (shD (gd x) (gd y)) := by
    refine mk_congr (by omega) hs.2.1 ?_
    generalize (e.1 - e.2) / 2 = k at *
    obtain ⟨u, l⟩ := e
    simp only at hd ⊢
    obtain rfl : u = l + k * 2 := by omega
    unfold shN shD
    generalize gd x = b at *
    generalize gd y = d at *
    have : c * l * (b * 2) = a * l * (d * 2) := by
      calc c * l * (b * 2) = (c * b) * (l * 2) := by simp only [Int.mul_assoc, Int.mul_left_comm, Int.mul_comm]
        _ = (a * d) * (l * 2) := by rw [hac]
        _ = a * l * (d * 2) := by simp only [Int.mul_assoc, Int.mul_left_comm, Int.mul_comm]
    rw [this, Int.mul_add, Int.add_mul, show a * l * (d * 2) + a * (k * 2) * (d * 2) - a * l * (d * 2) = a * (k * 2) * (d * 2) by omega]
    simp only [Int.mul_one, Int.one_mul, Int.mul_assoc, Int.mul_left_comm, Int.mul_comm]
  rw [e1, mk_of hs]
theorem fac_inv {x y a c : Int} (P : Pair x y a c) (h1 : (mkR a (gd x)).n = (mkR c (gd y)).n) (h2 : (mkR a (gd x)).d = (mkR c (gd y)).d) : a * gd y = c * gd x := by
  have hx := gd_bd P.hx
  have hy := gd_bd P.hy
  have ha := P.ha
  have hc := P.hc
  rw [mk_of (a := a) (b := gd x) ⟨by omega, by omega⟩, mk_of (a := c) (b := gd y) ⟨by omega, by omega⟩] at h1 h2
  exact nrm_inv hx.1 hy.1 h1 h2
end Go.Proofs.YtpollgibgphipaaDoor.SplitP
