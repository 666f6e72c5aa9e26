/-
  Components of a line: both directions, sums of strengths, the mean shift.
-/
import Derived.Test.YtpollgibgphipaaDoorSplitP
namespace Go.Proofs.YtpollgibgphipaaDoor.SplitP
open Go.Proofs.YtpollgibgphipaaDoor.RatP Go.Proofs.YtpollgibgphipaaDoor.Spin Go.Proofs.YtpollgibgphipaaDoor.ChoP Go.Proofs.YtpollgibgphipaaDoor.SplitPlain
set_option linter.unusedVariables false
set_option linter.unusedSimpArgs false
/-! ### both directions -/
theorem gd_tri {x y : Int} (ht : tri y 2 x = true) : tri x 2 y = true := by
  unfold tri at ht ⊢
  simp at ht ⊢; omega
theorem Pair.swap {x y a c : Int} (P : Pair x y a c) : Pair y x c a := ⟨P.hy, P.hx, gd_tri P.ht, P.hc, P.ha⟩
theorem back_str : every (fun x y u l => decide ((l, u) ∈ comps y x ∧ str420 y x l u * (x + 1) = str420 x y u l * (y + 1))) = true := by decide +kernel
theorem back_len : pairs (fun x y => decide ((comps x y).length = (comps y x).length)) = true := by decide +kernel
theorem shN_swap (a b c d u l : Int) : shN c d a b l u = -shN a b c d u l := by unfold shN; omega
theorem shD_swap (b d : Int) : shD d b = shD b d := by unfold shD; rw [Int.mul_comm]
/-- the component in the other direction -/
theorem Pair.back {x y a c : Int} (P : Pair x y a c) {i : Nat} (hi : i < (splitL x y a c).length) {k : Nat} (hk : k < (splitL y x c a).length) (h1 : (splitL y x c a)[k].u = (splitL x y a c)[i].l) (h2 : (splitL y x c a)[k].l = (splitL x y a c)[i].u) :
    (∃ r : Ro, r.ok = true ∧ mulR (splitL y x c a)[k].s (splitL y x c a)[k].t (x + 1) 1 = r ∧ mulR (splitL x y a c)[i].s (splitL x y a c)[i].t (y + 1) 1 = r) ∧ (splitL y x c a)[k].p = 0 - (splitL x y a c)[i].p ∧ (splitL y x c a)[k].q = (splitL x y a c)[i].q := by
  obtain ⟨e, he, g1, g2⟩ := P.get hi
  obtain ⟨f, hf, g3, g4⟩ := P.swap.get hk
  rw [g2, g4] at h1 h2 ⊢
  have h1' : f.1 = e.2 := h1
  have h2' : f.2 = e.1 := h2
  obtain rfl : f = (e.2, e.1) := by cases f; simp only at h1' h2'; rw [h1', h2']
  have hb := of_decide_eq_true (every_at back_str P.hx P.hy P.ht he)
  have s1 := P.st he
  have s2 := P.swap.st hf
  have hm := mk_neg (P.sm he)
  refine ⟨⟨mkR (str420 x y e.1 e.2 * (y + 1)) 420, ?_, ?_, ?_⟩, ?_, ?_⟩
  · have := mul_bds (a := str420 x y e.1 e.2) (b := y + 1) (A := 1000000) (B := 10) (by have := st_sm P.hx P.hy P.ht he; omega) (by have := st_sm P.hx P.hy P.ht he; omega) (by have := P.hy; omega) (by have := P.hy; omega) (by omega)
    rw [mk_of ⟨by omega, by omega⟩]
  · have h := mul_mk (a := str420 y x e.2 e.1) (b := 420) (c := x + 1) (d := 1) s2.1 ⟨by have := P.hx; omega, by omega⟩
    rw [mk_whole (x + 1) (by have := P.hx; omega)] at h
    exact h.trans (by rw [hb.2, Int.mul_one])
  · have h := mul_mk (a := str420 x y e.1 e.2) (b := 420) (c := y + 1) (d := 1) s1.1 ⟨by have := P.hy; omega, by omega⟩
    rw [mk_whole (y + 1) (by have := P.hy; omega)] at h
    exact h.trans (by rw [Int.mul_one])
  · simp only [spOf, shR, shN_swap a, shD_swap (gd x), hm]; omega
  · simp only [spOf, shR, shN_swap a, shD_swap (gd x), hm]
theorem split_get {x y a c : Int} {i : Nat} (hi : i < (splitL x y a c).length) (hi' : i < (comps x y).length) : (splitL x y a c)[i] = spOf x y a c (comps x y)[i] := List.getElem_map _
theorem Pair.back_ex {x y a c : Int} (P : Pair x y a c) {i : Nat} (hi : i < (splitL x y a c).length) : ∃ (k : Nat) (hk : k < (splitL y x c a).length), (splitL y x c a)[k].u = (splitL x y a c)[i].l ∧ (splitL y x c a)[k].l = (splitL x y a c)[i].u := by
  obtain ⟨e, he, g1, g2⟩ := P.get hi
  have hb := of_decide_eq_true (every_at back_str P.hx P.hy P.ht he)
  obtain ⟨k, hk, hke⟩ := List.mem_iff_getElem.1 hb.1
  have hk' : k < (splitL y x c a).length := by rw [P.swap.len]; exact hk
  refine ⟨k, hk', ?_, ?_⟩
  · rw [g2, split_get hk' hk, hke]; rfl
  · rw [g2, split_get hk' hk, hke]; rfl
theorem Pair.back_len {x y a c : Int} (P : Pair x y a c) : (splitL y x c a).length = (splitL x y a c).length := by
  rw [P.len, P.swap.len]
  exact (of_decide_eq_true (pairs_at SplitP.back_len P.hx P.hy P.ht)).symm
theorem filter_tt {α : Type} (l : List α) : l.filter (fun _ => true) = l := List.filter_eq_self.2 (fun _ _ => rfl)
/-! ### sums of strengths -/
def strs (x y : Int) (l : List (Int × Int)) : List Int := l.map fun e => str420 x y e.1 e.2
def ros (l : List Sp) : List Ro := l.map fun e => ⟨e.s, e.t, true⟩
theorem ros_is {x y a c : Int} (P : Pair x y a c) {l : List (Int × Int)} (hl : ∀ e ∈ l, e ∈ comps x y) : ros (l.map (spOf x y a c)) = (strs x y l).map fun k => mkR k 420 := by
  unfold ros strs
  rw [List.map_map, List.map_map]
  refine List.map_congr_left fun e he => ?_
  simp only [Function.comp, spOf, stR]
  rw [mk_of (P.st (hl e he)).1]
theorem strs_nonneg {x y a c : Int} (P : Pair x y a c) {l : List (Int × Int)} (hl : ∀ e ∈ l, e ∈ comps x y) : ∀ k ∈ strs x y l, 0 ≤ k := by
  intro k hk
  obtain ⟨e, he, rfl⟩ := List.mem_map.1 hk
  exact (P.st (hl e he)).2
theorem filter_in {x y : Int} (q : Int × Int → Bool) : ∀ e ∈ (comps x y).filter q, e ∈ comps x y := fun e he => (List.mem_filter.1 he).1
/-- a part of the components, chosen by u and l -/
theorem Pair.part_sum {x y a c : Int} (P : Pair x y a c) (q : Int × Int → Bool) (m : Int) (h : total (strs x y ((comps x y).filter q)) = m) (hm : m ≤ 1000000) : sumFrom ⟨0, 1, true⟩ (ros (((comps x y).filter q).map (spOf x y a c))) = mkR m 420 := by
  rw [ros_is P (filter_in q), ← mk_zero (D := 420) (by omega), sum_mk (by omega) _ 0 (by omega) (strs_nonneg P (filter_in q)) (by omega), h, Int.zero_add]
theorem all_total : pairs (fun x y => decide (total (strs x y (comps x y)) = 420 * (x + 1))) = true := by decide +kernel
theorem upper_total : pairs (fun x y => (proj x).all fun m => decide (total (strs x y ((comps x y).filter fun e => decide (e.1 = m))) = 420)) = true := by decide +kernel
theorem lower_total : pairs (fun x y => (proj y).all fun m => decide (total (strs x y ((comps x y).filter fun e => decide (e.2 = m))) * (y + 1) = 420 * (x + 1))) = true := by decide +kernel
theorem kind_total : pairs (fun x y => ([-2, 0, 2] : List Int).all fun m => decide (total (strs x y ((comps x y).filter fun e => decide (e.1 - e.2 = m))) * 3 = 420 * (x + 1))) = true := by decide +kernel
theorem total_bds : pairs (fun x y => (proj y).all fun m => decide (0 ≤ total (strs x y ((comps x y).filter fun e => decide (e.2 = m))) ∧ total (strs x y ((comps x y).filter fun e => decide (e.2 = m))) ≤ 3000)) = true := by decide +kernel
theorem mem_proj {j m : Int} (hj : 0 ≤ j) (h : -j ≤ m ∧ m ≤ j ∧ (m - j) % 2 = 0) : m ∈ proj j := by
  unfold proj
  refine List.mem_map.2 ⟨((m + j) / 2).toNat, List.mem_range.2 (by omega), by omega⟩
theorem mk_same {m k D : Int} (hD : 1 ≤ D) (h : m = D * k) (hk : -1000000000 ≤ k ∧ k ≤ 1000000000) : mkR m D = ⟨k, 1, true⟩ := by
  rw [← mk_whole k hk]
  exact mk_congr hD (by omega) (by rw [h, Int.mul_one, Int.mul_comm])
theorem Pair.sum_all {x y a c : Int} (P : Pair x y a c) : sumFrom ⟨0, 1, true⟩ (ros (splitL x y a c)) = ⟨x + 1, 1, true⟩ := by
  have h := P.part_sum (fun _ => true) (420 * (x + 1)) (by rw [filter_tt]; exact of_decide_eq_true (pairs_at all_total P.hx P.hy P.ht)) (by have := P.hx; omega)
  rw [filter_tt] at h
  exact h.trans (mk_same (by omega) rfl (by have := P.hx; omega))
theorem split_filter (x y a c : Int) (q : Sp → Bool) (r : Int × Int → Bool) (h : ∀ e : Int × Int, q (spOf x y a c e) = r e) : (splitL x y a c).filter q = ((comps x y).filter r).map (spOf x y a c) := by
  unfold splitL
  rw [List.filter_map]
  congr 1
  exact List.filter_congr (fun e _ => h e)
theorem Pair.sum_upper {x y a c : Int} (P : Pair x y a c) {m : Int} (hm : m ∈ proj x) : sumFrom ⟨0, 1, true⟩ (ros ((splitL x y a c).filter fun e => decide (e.u = m))) = ⟨1, 1, true⟩ := by
  rw [split_filter x y a c _ (fun e => decide (e.1 = m)) (fun _ => rfl)]
  exact (P.part_sum _ 420 (of_decide_eq_true (List.all_eq_true.1 (pairs_at upper_total P.hx P.hy P.ht) m hm)) (by omega)).trans (mk_same (by omega) rfl (by omega))
theorem Pair.sum_lower {x y a c : Int} (P : Pair x y a c) {m : Int} (hm : m ∈ proj y) : sumFrom ⟨0, 1, true⟩ (ros ((splitL x y a c).filter fun e => decide (e.l = m))) = mkR (x + 1) (y + 1) ∧ (mkR (x + 1) (y + 1)).ok = true := by
  have hx := P.hx
  have hy := P.hy
  rw [split_filter x y a c _ (fun e => decide (e.2 = m)) (fun _ => rfl)]
  have h1 := of_decide_eq_true (List.all_eq_true.1 (pairs_at lower_total P.hx P.hy P.ht) m hm)
  have h2 := of_decide_eq_true (List.all_eq_true.1 (pairs_at total_bds P.hx P.hy P.ht) m hm)
  refine ⟨(P.part_sum _ _ rfl (by omega)).trans (mk_congr (by omega) (by omega) (by rw [h1, Int.mul_comm])), ?_⟩
  rw [mk_of ⟨by omega, by omega⟩]
theorem Pair.sum_kind {x y a c : Int} (P : Pair x y a c) {m : Int} (hm : m = -2 ∨ m = 0 ∨ m = 2) : sumFrom ⟨0, 1, true⟩ (ros ((splitL x y a c).filter fun e => decide (e.u - e.l = m))) = mkR (x + 1) 3 ∧ (mkR (x + 1) 3).ok = true := by
  have hx := P.hx
  rw [split_filter x y a c _ (fun e => decide (e.1 - e.2 = m)) (fun _ => rfl)]
  have h1 := of_decide_eq_true (List.all_eq_true.1 (pairs_at kind_total P.hx P.hy P.ht) m (by rcases hm with rfl | rfl | rfl <;> decide))
  refine ⟨(P.part_sum _ _ rfl (by omega)).trans (mk_congr (by omega) (by omega) (by omega)), ?_⟩
  rw [mk_of ⟨by omega, by omega⟩]
/-! ### the mean -/
def wsum (f : Int × Int → Int) (x y : Int) (l : List (Int × Int)) : Int := total (l.map fun e => f e * str420 x y e.1 e.2)
def msum (a b c d x y : Int) (l : List (Int × Int)) : Int := total (l.map fun e => shN a b c d e.1 e.2 * str420 x y e.1 e.2)
theorem msum_is (a b c d x y : Int) (l : List (Int × Int)) : msum a b c d x y l = a * (d * 2) * wsum (fun e => e.1) x y l - c * (b * 2) * wsum (fun e => e.2) x y l := by
  unfold msum wsum
  induction l with
  | nil => simp [total]
  | cons e l ih =>
    simp only [List.map_cons, total, ih]
    unfold shN
    rw [Int.mul_add, Int.mul_add, Int.sub_mul]
    have e1 : a * e.1 * (d * 2) * str420 x y e.1 e.2 = a * (d * 2) * (e.1 * str420 x y e.1 e.2) := by simp only [Int.mul_assoc, Int.mul_left_comm, Int.mul_comm]
    have e2 : c * e.2 * (b * 2) * str420 x y e.1 e.2 = c * (b * 2) * (e.2 * str420 x y e.1 e.2) := by simp only [Int.mul_assoc, Int.mul_left_comm, Int.mul_comm]
    rw [e1, e2]; omega
def kindIs (m : Int) : Int × Int → Bool := fun e => decide (e.1 - e.2 = m)
def part (x y m : Int) (k : Nat) : List (Int × Int) := ((comps x y).take k).filter (kindIs m)
theorem wsum_bds : pairs (fun x y => ([0, 2] : List Int).all fun m => (List.range 20).all fun k => decide ((-4000 ≤ wsum (fun e => e.1) x y (part x y m k) ∧ wsum (fun e => e.1) x y (part x y m k) ≤ 4000) ∧ (-4000 ≤ wsum (fun e => e.2) x y (part x y m k) ∧ wsum (fun e => e.2) x y (part x y m k) ≤ 4000))) = true := by decide +kernel
theorem wsum_end : pairs (fun x y => decide ((96 * wsum (fun e => e.1) x y (part x y 2 19) = (8 + (x * (x + 2) - y * (y + 2))) * (x + 1) * 1680 ∧ -(96 * wsum (fun e => e.2) x y (part x y 2 19)) = (8 - (x * (x + 2) - y * (y + 2))) * (x + 1) * 1680) ∧ wsum (fun e => e.1) x y (part x y 0 19) = 0 ∧ wsum (fun e => e.2) x y (part x y 0 19) = 0)) = true := by decide +kernel
def mD (x y : Int) : Int := shD (gd x) (gd y) * 420
def mN (x y a c m : Int) (k : Nat) : Int := msum a (gd x) c (gd y) x y (part x y m k)
theorem Pair.mD_bd {x y a c : Int} (P : Pair x y a c) : 1 ≤ mD x y ∧ mD x y ≤ 1000000000 := by
  have := shD_bd (gd_bd P.hx) (gd_bd P.hy)
  unfold mD; omega
theorem Pair.mean_sm {x y a c : Int} (P : Pair x y a c) {m : Int} (hm : m = 0 ∨ m = 2) {k : Nat} (hk : k ≤ 19) : Sm (mN x y a c m k) (mD x y) := by
  have h := of_decide_eq_true (List.all_eq_true.1 (List.all_eq_true.1 (pairs_at wsum_bds P.hx P.hy P.ht) m (by rcases hm with rfl | rfl <;> decide)) k (List.mem_range.2 (by omega)))
  have hd := P.mD_bd
  refine ⟨?_, hd⟩
  unfold mN
  rw [msum_is]
  have hgx := gd_bd P.hx
  have hgy := gd_bd P.hy
  have h1 := mul_bds (a := a) (b := gd y * 2) (A := 216) (B := 192) (by have := P.ha; omega) P.ha.2 (by omega) (by omega) (by omega)
  have h2 := mul_bds (a := c) (b := gd x * 2) (A := 216) (B := 192) (by have := P.hc; omega) P.hc.2 (by omega) (by omega) (by omega)
  have h3 := mul_bds (a := a * (gd y * 2)) (b := wsum (fun e => e.1) x y (part x y m k)) (A := 41472) (B := 4000) (by omega) (by omega) (by omega) (by omega) (by omega)
  have h4 := mul_bds (a := c * (gd x * 2)) (b := wsum (fun e => e.2) x y (part x y m k)) (A := 41472) (B := 4000) (by omega) (by omega) (by omega) (by omega) (by omega)
  omega
theorem part_yes {x y m : Int} {k : Nat} {e : Int × Int} (h : (comps x y)[k]? = some e) (he : e.1 - e.2 = m) : part x y m (k + 1) = part x y m k ++ [e] := by
  obtain ⟨hk, he'⟩ := List.getElem?_eq_some_iff.1 h
  unfold part
  rw [List.take_succ_eq_append_getElem hk, List.filter_append, he']
  simp [kindIs, he]
theorem part_no {x y m : Int} {k : Nat} {e : Int × Int} (h : (comps x y)[k]? = some e) (he : ¬ e.1 - e.2 = m) : part x y m (k + 1) = part x y m k := by
  obtain ⟨hk, he'⟩ := List.getElem?_eq_some_iff.1 h
  unfold part
  rw [List.take_succ_eq_append_getElem hk, List.filter_append, he']
  simp [kindIs, he]
/-- one product -/
theorem Pair.prod {x y a c : Int} (P : Pair x y a c) {i : Nat} (hi : i < (splitL x y a c).length) : ∃ z : Int, Sm z (mD x y) ∧ mulR (splitL x y a c)[i].p (splitL x y a c)[i].q (splitL x y a c)[i].s (splitL x y a c)[i].t = mkR z (mD x y) ∧
    ∀ m : Int, ((splitL x y a c)[i].u - (splitL x y a c)[i].l = m → mN x y a c m (i + 1) = mN x y a c m i + z) ∧ (¬ (splitL x y a c)[i].u - (splitL x y a c)[i].l = m → mN x y a c m (i + 1) = mN x y a c m i) := by
  obtain ⟨e, he, h1, h2⟩ := P.get hi
  have s1 := P.sm he
  have s2 := P.st he
  have hd := P.mD_bd
  refine ⟨shN a (gd x) c (gd y) e.1 e.2 * str420 x y e.1 e.2, ?_, ?_, ?_⟩
  · have hb := P.bd he
    have h3 := shN_bd P.ha (gd_bd P.hx) P.hc (gd_bd P.hy) hb.1 hb.2.1
    have h4 := st_sm P.hx P.hy P.ht he
    have h5 := mul_bds (a := shN a (gd x) c (gd y) e.1 e.2) (b := str420 x y e.1 e.2) (A := 497664) (B := 420) (by omega) h3.2 (by omega) h4.2 (by omega)
    exact ⟨by omega, hd⟩
  · rw [h2]
    exact mul_mk s1 s2.1
  · intro m
    rw [h2]
    constructor
    · intro hm
      unfold mN
      rw [part_yes h1 hm]
      unfold msum
      rw [List.map_append, total_append]
      simp [total]
    · intro hm
      unfold mN
      rw [part_no h1 hm]
theorem mean_zero (x y a c m : Int) : mN x y a c m 0 = 0 := by unfold mN part msum; simp [total]
theorem part_all {x y a c m : Int} (P : Pair x y a c) {k : Nat} (hk : (splitL x y a c).length ≤ k) : part x y m k = part x y m 19 := by
  have h := P.len_is
  rw [P.len] at hk h
  unfold part
  rw [List.take_of_length_le hk, List.take_of_length_le h.1]
def kk (x y : Int) : Int := x * (x + 2) - y * (y + 2)
def f1 (x y a c : Int) : Int := a * gd y + c * gd x
def f2 (x y a c : Int) : Int := a * gd y - c * gd x
def gg (x y : Int) : Int := gd x * gd y
/-- the reckoning of the law -/
theorem Pair.mean_end {x y a c : Int} (P : Pair x y a c) : ∃ g h A B C K D E W F : Ro, g = mkR a (gd x) ∧ h = mkR c (gd y) ∧ A = addQ g h ∧ B = mulQ A ⟨1, 2, true⟩ ∧ C = subQ g h ∧ K = mkR (kk x y) 16 ∧ D = mulQ C K ∧ E = addQ B D ∧ W = mkR (x + 1) 3 ∧ F = mulQ E W ∧
    (g.ok = true ∧ h.ok = true ∧ A.ok = true ∧ B.ok = true ∧ C.ok = true ∧ K.ok = true ∧ D.ok = true ∧ E.ok = true ∧ W.ok = true ∧ F.ok = true) ∧
    (∀ k, (splitL x y a c).length ≤ k → mkR (mN x y a c 2 k) (mD x y) = F ∧ mkR (mN x y a c 0 k) (mD x y) = ⟨0, 1, true⟩) := by
  have hx := P.hx
  have hy := P.hy
  have ha := P.ha
  have hc := P.hc
  have hgx := gd_bd P.hx
  have hgy := gd_bd P.hy
  have m1 := mul_bds (a := a) (b := gd y) (A := 216) (B := 96) (by omega) (by omega) (by omega) (by omega) (by omega)
  have m2 := mul_bds (a := c) (b := gd x) (A := 216) (B := 96) (by omega) (by omega) (by omega) (by omega) (by omega)
  have m3 := mul_bds (a := gd x) (b := gd y) (A := 96) (B := 96) (by omega) (by omega) (by omega) (by omega) (by omega)
  have m4 := mul_pos1 hgx.1 hgy.1
  have hk : -48 ≤ kk x y ∧ kk x y ≤ 48 := by
    have e1 := mul_bds (a := x) (b := x + 2) (A := 6) (B := 8) (by omega) (by omega) (by omega) (by omega) (by omega)
    have e2 := mul_bds (a := y) (b := y + 2) (A := 6) (B := 8) (by omega) (by omega) (by omega) (by omega) (by omega)
    have e3 := Int.mul_nonneg (a := x) (b := x + 2) (by omega) (by omega)
    have e4 := Int.mul_nonneg (a := y) (b := y + 2) (by omega) (by omega)
    unfold kk; omega
  have b1 : -41472 ≤ f1 x y a c ∧ f1 x y a c ≤ 41472 := by unfold f1; omega
  have b2 : -41472 ≤ f2 x y a c ∧ f2 x y a c ≤ 41472 := by unfold f2; omega
  have b3 : 1 ≤ gg x y ∧ gg x y ≤ 9216 := by unfold gg; omega
  have sg : Sm a (gd x) := ⟨by omega, by omega⟩
  have sh : Sm c (gd y) := ⟨by omega, by omega⟩
  have hA : addQ (mkR a (gd x)) (mkR c (gd y)) = mkR (f1 x y a c) (gg x y) := by rw [add_mk sg sh]; rfl
  have hC : subQ (mkR a (gd x)) (mkR c (gd y)) = mkR (f2 x y a c) (gg x y) := by rw [sub_mk sg sh]; rfl
  have sA : Sm (f1 x y a c) (gg x y) := ⟨by omega, by omega⟩
  have sC : Sm (f2 x y a c) (gg x y) := ⟨by omega, by omega⟩
  have sB : Sm (f1 x y a c * 1) (gg x y * 2) := ⟨by omega, by omega⟩
  have hB : mulQ (mkR (f1 x y a c) (gg x y)) ⟨1, 2, true⟩ = mkR (f1 x y a c * 1) (gg x y * 2) := by
    rw [show (⟨1, 2, true⟩ : Ro) = mkR 1 2 from rfl, mul_mk sA ⟨by omega, by omega⟩]
  have sK : Sm (kk x y) 16 := ⟨by omega, by omega⟩
  have m5 := mul_bds (a := f2 x y a c) (b := kk x y) (A := 41472) (B := 48) (by omega) (by omega) (by omega) (by omega) (by omega)
  have hD : mulQ (mkR (f2 x y a c) (gg x y)) (mkR (kk x y) 16) = mkR (f2 x y a c * kk x y) (gg x y * 16) := mul_mk sC sK
  have sD : Sm (f2 x y a c * kk x y) (gg x y * 16) := ⟨by omega, by omega⟩
  have hE : addQ (mkR (f1 x y a c * 1) (gg x y * 2)) (mkR (f2 x y a c * kk x y) (gg x y * 16)) = mkR (f1 x y a c * 8 + f2 x y a c * kk x y) (gg x y * 16) := by
    have e0 : mkR (f1 x y a c * 1) (gg x y * 2) = mkR (f1 x y a c * 8) (gg x y * 16) := by
      refine mk_congr (by omega) (by omega) ?_
      generalize f1 x y a c = p
      generalize gg x y = q
      rw [Int.mul_one, ← Int.mul_assoc, show p * 8 * (q * 2) = p * q * 16 by rw [Int.mul_assoc, Int.mul_left_comm 8, show (8 : Int) * 2 = 16 from rfl, ← Int.mul_assoc]]
    rw [e0]
    exact cadd ⟨by omega, by omega⟩ sD
  have sE : Sm (f1 x y a c * 8 + f2 x y a c * kk x y) (gg x y * 16) := ⟨by omega, by omega⟩
  have sW : Sm (x + 1) 3 := ⟨by omega, by omega⟩
  have hF := mul_mk sE sW
  have m6 := mul_bds (a := f1 x y a c * 8 + f2 x y a c * kk x y) (b := x + 1) (A := 2322432) (B := 7) (by omega) (by omega) (by omega) (by omega) (by omega)
  have sF : Sm ((f1 x y a c * 8 + f2 x y a c * kk x y) * (x + 1)) (gg x y * 16 * 3) := ⟨by omega, by omega⟩
  refine ⟨_, _, _, _, _, _, _, _, _, _, rfl, rfl, rfl, rfl, rfl, rfl, rfl, rfl, rfl, rfl, ?_, ?_⟩
  · rw [hA, hB, hC, hD, hE, hF, mk_of sg, mk_of sh, mk_of sA, mk_of sB, mk_of sC, mk_of sK, mk_of sD, mk_of sE, mk_of sW, mk_of sF]
    exact ⟨rfl, rfl, rfl, rfl, rfl, rfl, rfl, rfl, rfl, rfl⟩
  · intro k hlen
    rw [hA, hB, hC, hD, hE, hF]
    have hw := of_decide_eq_true (pairs_at wsum_end P.hx P.hy P.ht)
    obtain ⟨⟨w1, w2⟩, w3, w4⟩ := hw
    have hd := P.mD_bd
    constructor
    · refine mk_congr hd.1 sF.2.1 ?_
      unfold mN
      rw [part_all P hlen, msum_is]
      generalize wsum (fun e => e.1) x y (part x y 2 19) = U at *
      generalize wsum (fun e => e.2) x y (part x y 2 19) = V at *
      change 96 * U = (8 + kk x y) * (x + 1) * 1680 at w1
      change -(96 * V) = (8 - kk x y) * (x + 1) * 1680 at w2
      unfold mD shD f1 f2 gg
      generalize kk x y = K at *
      generalize gd x = b at *
      generalize gd y = d at *
      generalize x + 1 = X at *
      have t1 : (a * (d * 2) * U - c * (b * 2) * V) * (b * d * 16 * 3) = (b * d) * (a * d * (96 * U) + c * b * -(96 * V)) := by
        grind
      rw [t1, w1, w2]
      grind
    · have e0 : mN x y a c 0 k = 0 := by
        unfold mN
        rw [part_all P hlen, msum_is, w3, w4]; simp
      rw [e0, mk_zero hd.1]
end Go.Proofs.YtpollgibgphipaaDoor.SplitP
