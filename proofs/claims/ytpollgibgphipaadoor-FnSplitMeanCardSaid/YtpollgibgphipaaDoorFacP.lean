/-
  Factors of levels and components: the plain values that the functions return.
-/
import Derived.Test.YtpollgibgphipaaDoorSplitP
import Derived.Test.YtpollgibgphipaaDoorRat3
namespace Go.Proofs.YtpollgibgphipaaDoor.Fac
open Go.Proofs.YtpollgibgphipaaDoor.RatP Go.Proofs.YtpollgibgphipaaDoor.ChoP Go.Proofs.YtpollgibgphipaaDoor.SplitPlain Go.Proofs.YtpollgibgphipaaDoor.SplitP Go.Proofs.YtpollgibgphipaaDoor.Spin
set_option linter.unusedVariables false
set_option linter.unusedSimpArgs false

/-- the factor of a level, or 0 if it has none -/
def facR (s l j : Int) : Ro := mkR (gn s l j) (gd j)
/-- a level that is coupled -/
structure Lv (s l j : Int) : Prop where
  ok : levelOk s l j = true
  hj : 0 ≤ j ∧ j ≤ 6
theorem Lv.bd {s l j : Int} (h : Lv s l j) : (0 ≤ s ∧ s ≤ 8) ∧ (0 ≤ l ∧ l ≤ 8) := by
  have h0 := h.ok
  unfold levelOk at h0
  rw [Bool.and_eq_true] at h0
  exact termOk_true.1 h0.1
theorem Lv.gn {s l j : Int} (h : Lv s l j) : -216 ≤ gn s l j ∧ gn s l j ≤ 216 := by
  have := gn_bd h.ok h.hj.2
  omega
theorem Lv.sm {s l j : Int} (h : Lv s l j) : Sm (SplitP.gn s l j) (gd j) := by
  have h1 := h.gn
  have h2 := gd_bd h.hj
  exact ⟨by omega, by omega⟩
theorem Lv.fac {s l j : Int} (h : Lv s l j) : facR s l j = ⟨nn (SplitP.gn s l j) (gd j), nd (SplitP.gn s l j) (gd j), true⟩ := mk_of h.sm
theorem fac_zero (s l : Int) : facR s l 0 = ⟨0, 1, true⟩ := by
  unfold facR SplitP.gn gd
  rw [if_pos rfl, if_pos rfl]
  exact mk_zero (by omega)
/-- two levels between which there may be a line -/
structure LvPair (s l j s' l' j' : Int) : Prop where
  a : Lv s l j
  b : Lv s' l' j'
  ht : tri j' 2 j = true
theorem LvPair.pair {s l j s' l' j' : Int} (h : LvPair s l j s' l' j') : Pair j j' (gn s l j) (gn s' l' j') := ⟨h.a.hj, h.b.hj, h.ht, h.a.gn, h.b.gn⟩
/-- the components of a line -/
def splitS (s l j s' l' j' : Int) : List Sp := splitL j j' (gn s l j) (gn s' l' j')
def splitOk (s l j s' l' j' : Int) : Bool := levelOk s l j && levelOk s' l' j' && decide (j ≤ 6) && decide (j' ≤ 6) && tri j' 2 j
def splitsOf (s l j s' l' j' : Int) : List Sp := if splitOk s l j s' l' j' = true then splitS s l j s' l' j' else []
theorem level_j {s l j : Int} (h : levelOk s l j = true) : 0 ≤ j := by
  unfold levelOk at h
  rw [Bool.and_eq_true] at h
  have := tri_true.1 h.2
  omega
theorem splitOk_pair {s l j s' l' j' : Int} (h : splitOk s l j s' l' j' = true) : LvPair s l j s' l' j' := by
  unfold splitOk at h
  rw [Bool.and_eq_true, Bool.and_eq_true, Bool.and_eq_true, Bool.and_eq_true] at h
  obtain ⟨⟨⟨⟨h1, h2⟩, h3⟩, h4⟩, h5⟩ := h
  exact ⟨⟨h1, level_j h1, of_decide_eq_true h3⟩, ⟨h2, level_j h2, of_decide_eq_true h4⟩, h5⟩
/-- the ways in which two levels have no components -/
theorem split_cases (s l j s' l' j' : Int) : (levelOk s l j = false ∧ splitOk s l j s' l' j' = false) ∨ (levelOk s l j = true ∧ levelOk s' l' j' = false ∧ splitOk s l j s' l' j' = false) ∨
    (levelOk s l j = true ∧ levelOk s' l' j' = true ∧ decide (6 < j) = true ∧ splitOk s l j s' l' j' = false) ∨ (levelOk s l j = true ∧ levelOk s' l' j' = true ∧ decide (6 < j) = false ∧ decide (6 < j') = true ∧ splitOk s l j s' l' j' = false) ∨
    (levelOk s l j = true ∧ levelOk s' l' j' = true ∧ decide (6 < j) = false ∧ decide (6 < j') = false ∧ tri j' 2 j = false ∧ splitOk s l j s' l' j' = false) ∨
    (levelOk s l j = true ∧ levelOk s' l' j' = true ∧ decide (6 < j) = false ∧ decide (6 < j') = false ∧ tri j' 2 j = true ∧ splitOk s l j s' l' j' = true) := by
  unfold splitOk
  cases levelOk s l j <;> cases levelOk s' l' j' <;> by_cases h1 : j ≤ 6 <;> by_cases h2 : j' ≤ 6 <;> cases tri j' 2 j <;> simp [h1, h2] <;> omega
/-- one component, as it is reckoned -/
theorem LvPair.half {s l j s' l' j' u w : Int} (h : LvPair s l j s' l' j') (he : (u, w) ∈ comps j j') :
    mulQ (facR s l j) (mkR u 2) = mkR (gn s l j * u) (gd j * 2) ∧ mulQ (facR s' l' j') (mkR w 2) = mkR (gn s' l' j' * w) (gd j' * 2) ∧ Sm (gn s l j * u) (gd j * 2) ∧ Sm (gn s' l' j' * w) (gd j' * 2) ∧ subQ (mkR (gn s l j * u) (gd j * 2)) (mkR (gn s' l' j' * w) (gd j' * 2)) = shR j j' (gn s l j) (gn s' l' j') u w := by
  have hb := h.pair.bd he
  exact sh_calc h.a.gn (gd_bd h.a.hj) h.b.gn (gd_bd h.b.hj) hb.1 hb.2.1
/-! ### the loops over the projections -/
def rowTo (x y a c : Int) (u : Int) (k : Nat) : List Sp := (((proj y).take k).filter (near u)).map fun l => spOf x y a c (u, l)
def rawTo (x y a c : Int) (i : Nat) : List Sp := ((proj x).take i).flatMap fun u => ((proj y).filter (near u)).map fun l => spOf x y a c (u, l)
theorem rowTo_zero (x y a c u : Int) : rowTo x y a c u 0 = [] := rfl
theorem rowTo_yes {x y a c u : Int} {k : Nat} (hk : k < (proj y).length) (h : near u (proj y)[k] = true) : rowTo x y a c u (k + 1) = rowTo x y a c u k ++ [spOf x y a c (u, (proj y)[k])] := by
  unfold rowTo
  rw [List.take_succ_eq_append_getElem hk, List.filter_append, List.map_append]
  simp [h]
theorem rowTo_no {x y a c u : Int} {k : Nat} (hk : k < (proj y).length) (h : near u (proj y)[k] = false) : rowTo x y a c u (k + 1) = rowTo x y a c u k := by
  unfold rowTo
  rw [List.take_succ_eq_append_getElem hk, List.filter_append, List.map_append]
  simp [h]
theorem rawTo_succ {x y a c : Int} {i : Nat} (hi : i < (proj x).length) : rawTo x y a c (i + 1) = rawTo x y a c i ++ rowTo x y a c (proj x)[i] (proj y).length := by
  unfold rawTo rowTo
  rw [List.take_succ_eq_append_getElem hi, List.flatMap_append, List.take_length]
  simp
theorem rawTo_all (x y a c : Int) : rawTo x y a c (proj x).length = splitL x y a c := by
  unfold rawTo splitL comps
  rw [List.take_length, List.map_flatMap]
  simp only [List.map_map]
  rfl
theorem proj_len {j : Int} (h : 0 ≤ j) : ((proj j).length : Int) = j + 1 := by unfold proj; simp; omega
theorem proj_at {j : Int} (h : 0 ≤ j) {k : Nat} (hk : k < (proj j).length) : (proj j)[k] = -j + 2 * (k : Int) := by
  have e : (proj j)[k]? = some (-j + 2 * (k : Int)) := by
    unfold proj
    rw [List.getElem?_map, List.getElem?_range (by unfold proj at hk; simpa using hk)]; rfl
  rw [List.getElem?_eq_getElem hk] at e
  exact Option.some.inj e
theorem near_true {u l : Int} : near u l = true ↔ -2 ≤ u - l ∧ u - l ≤ 2 := by simp [near]
theorem mem_comps {x y u l : Int} (hu : u ∈ proj x) (hl : l ∈ proj y) (h : near u l = true) : (u, l) ∈ comps x y := by
  unfold comps
  exact List.mem_flatMap.2 ⟨u, hu, List.mem_map.2 ⟨l, List.mem_filter.2 ⟨hl, h⟩, rfl⟩⟩
theorem rowTo_len (x y a c u : Int) (k : Nat) : (rowTo x y a c u k).length ≤ k := by
  unfold rowTo
  rw [List.length_map]
  refine Nat.le_trans (List.length_filter_le _ _) ?_
  rw [List.length_take]; omega
theorem rawTo_len (x y a c : Int) (i m : Nat) (h : (proj y).length ≤ m) : (rawTo x y a c i).length ≤ i * m := by
  induction i with
  | zero => simp [rawTo]
  | succ i ih =>
    by_cases hi : i < (proj x).length
    · rw [rawTo_succ hi, List.length_append, Nat.add_mul]
      have := rowTo_len x y a c (proj x)[i] (proj y).length
      omega
    · have e : rawTo x y a c (i + 1) = rawTo x y a c i := by unfold rawTo; rw [List.take_of_length_le (by omega), List.take_of_length_le (by omega)]
      rw [e, Nat.add_mul]; omega
end Go.Proofs.YtpollgibgphipaaDoor.Fac
