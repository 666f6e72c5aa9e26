/-
  Plain laws for the sums over components: prefixes, kinds, projections, the mean.
-/
import Derived.Test.YtpollgibgphipaaDoorSplitR
import Derived.Test.YtpollgibgphipaaDoorSplitKind
import Derived.Test.YtpollgibgphipaaDoorFacP
namespace Go.Proofs.YtpollgibgphipaaDoor.SplE
open Go Go.RowKit Go.Proofs.YtpollgibgphipaaDoor.RatP Go.Proofs.YtpollgibgphipaaDoor.Spin Go.Proofs.YtpollgibgphipaaDoor.ChoP Go.Proofs.YtpollgibgphipaaDoor.SplitPlain Go.Proofs.YtpollgibgphipaaDoor.SplitP Go.Proofs.YtpollgibgphipaaDoor.SplitDef Go.Proofs.YtpollgibgphipaaDoor.SplitKind Go.Proofs.YtpollgibgphipaaDoor.Fac
set_option linter.unusedVariables false
set_option linter.unusedSimpArgs false

theorem wrap_small (n : Int) (h : -100 ≤ n ∧ n ≤ 100) : wrap64 n = n := by unfold wrap64; omega
theorem total_sub {l1 l2 : List Int} (h : l1.Sublist l2) (hn : ∀ k ∈ l2, 0 ≤ k) : total l1 ≤ total l2 := by
  induction h with
  | slnil => exact Int.le_refl _
  | cons a h ih =>
    have := ih (fun k hk => hn k (List.mem_cons_of_mem _ hk))
    have h0 := hn a (by simp)
    show total _ ≤ a + total _
    omega
  | cons_cons a h ih =>
    have := ih (fun k hk => hn k (List.mem_cons_of_mem _ hk))
    show a + total _ ≤ a + total _
    omega
/-- a part of the components can be added up -/
theorem p_sub_ok {x y a c : Int} (P : Pair x y a c) {l : List (Int × Int)} (h : l.Sublist (comps x y)) : SumOk (l.map (spOf x y a c)) := by
  have hl : ∀ e ∈ l, e ∈ comps x y := fun e he => h.subset he
  refine ⟨strs x y l, ros_is P hl, strs_nonneg P hl, ?_⟩
  have h1 : (strs x y l).Sublist (strs x y (comps x y)) := h.map _
  have h2 := total_sub h1 (strs_nonneg P (fun e he => he))
  have h3 : total (strs x y (comps x y)) = 420 * (x + 1) := of_decide_eq_true (pairs_at all_total P.hx P.hy P.ht)
  have := P.hx
  omega
theorem sumOk_ok {l : List Sp} (h : SumOk l) : (sumL l).ok = true := (h.parts 0).1
theorem sumFrom_snoc (l : List Ro) (acc e : Ro) (h : (sumFrom acc (l ++ [e])).ok = true) : sumFrom acc (l ++ [e]) = addQ (sumFrom acc l) e := by
  induction l generalizing acc with
  | nil =>
    simp only [List.nil_append] at h ⊢
    unfold sumFrom at h ⊢
    split at h
    · rw [if_pos (by assumption)]; unfold sumFrom; rfl
    · cases h
  | cons b l ih =>
    simp only [List.cons_append] at h ⊢
    have e1 : sumFrom acc (b :: (l ++ [e])) = if (addQ acc b).ok = true then sumFrom (addQ acc b) (l ++ [e]) else bad := rfl
    have e2 : sumFrom acc (b :: l) = if (addQ acc b).ok = true then sumFrom (addQ acc b) l else bad := rfl
    rw [e1] at h ⊢
    rw [e2]
    by_cases hb : (addQ acc b).ok = true
    · rw [if_pos hb] at h ⊢
      rw [if_pos hb]
      exact ih _ h
    · rw [if_neg hb] at h; cases h
theorem sumL_snoc (l : List Sp) (e : Sp) (h : SumOk (l ++ [e])) : sumL (l ++ [e]) = addQ (sumL l) ⟨e.s, e.t, true⟩ := by
  have hk := sumOk_ok h
  unfold sumL ros at hk ⊢
  rw [List.map_append] at hk ⊢
  exact sumFrom_snoc _ _ _ hk
/-- the components of a prefix that are chosen -/
def pf (x y : Int) (f : Int × Int → Bool) (q : Nat) : List (Int × Int) := ((comps x y).take q).filter f
def ps (x y a c : Int) (f : Int × Int → Bool) (q : Nat) : Ro := sumL ((pf x y f q).map (spOf x y a c))
def pl (x y a c : Int) (f : Int × Int → Bool) (q : Nat) : List Sp := (pf x y f q).map (spOf x y a c)
theorem pf_sub (x y : Int) (f : Int × Int → Bool) (q : Nat) : (pf x y f q).Sublist (comps x y) := (List.filter_sublist).trans (List.take_sublist _ _)
theorem pl_len (x y a c : Int) (f : Int × Int → Bool) (q : Nat) : (pl x y a c f q).length ≤ q := by
  unfold pl pf
  rw [List.length_map]
  refine Nat.le_trans (List.length_filter_le _ _) ?_
  rw [List.length_take]; omega
theorem p_ps_ok {x y a c : Int} (P : Pair x y a c) (f : Int × Int → Bool) (q : Nat) : (ps x y a c f q).ok = true := sumOk_ok (p_sub_ok P (pf_sub x y f q))
theorem ps_zero (x y a c : Int) (f : Int × Int → Bool) : ps x y a c f 0 = ⟨0, 1, true⟩ := rfl
theorem pl_zero (x y a c : Int) (f : Int × Int → Bool) : pl x y a c f 0 = [] := rfl
theorem pl_yes {x y a c : Int} (f : Int × Int → Bool) {q : Nat} (hq : q < (splitL x y a c).length) (h : f ((splitL x y a c)[q].u, (splitL x y a c)[q].l) = true) : pl x y a c f (q + 1) = pl x y a c f q ++ [(splitL x y a c)[q]] := by
  have hq' : q < (comps x y).length := by unfold splitL at hq; simpa using hq
  have e := split_get hq hq'
  rw [e] at h ⊢
  have h' : f (comps x y)[q] = true := h
  unfold pl pf
  rw [List.take_succ_eq_append_getElem hq', List.filter_append, List.map_append]
  simp [h']
theorem pl_no {x y a c : Int} (f : Int × Int → Bool) {q : Nat} (hq : q < (splitL x y a c).length) (h : f ((splitL x y a c)[q].u, (splitL x y a c)[q].l) = false) : pl x y a c f (q + 1) = pl x y a c f q := by
  have hq' : q < (comps x y).length := by unfold splitL at hq; simpa using hq
  have e := split_get hq hq'
  rw [e] at h
  have h' : f (comps x y)[q] = false := h
  unfold pl pf
  rw [List.take_succ_eq_append_getElem hq', List.filter_append, List.map_append]
  simp [h']
theorem p_ps_yes {x y a c : Int} (P : Pair x y a c) (f : Int × Int → Bool) {q : Nat} (hq : q < (splitL x y a c).length) (h : f ((splitL x y a c)[q].u, (splitL x y a c)[q].l) = true) : addQ (ps x y a c f q) ⟨(splitL x y a c)[q].s, (splitL x y a c)[q].t, true⟩ = ps x y a c f (q + 1) := by
  have e := pl_yes f hq h
  have ok := p_sub_ok P (pf_sub x y f (q + 1))
  have ok' : SumOk (pl x y a c f (q + 1)) := ok
  rw [e] at ok'
  have e2 := sumL_snoc _ _ ok'
  show addQ (sumL (pl x y a c f q)) _ = sumL (pl x y a c f (q + 1))
  rw [e, e2]
theorem ps_no {x y a c : Int} (f : Int × Int → Bool) {q : Nat} (hq : q < (splitL x y a c).length) (h : f ((splitL x y a c)[q].u, (splitL x y a c)[q].l) = false) : ps x y a c f (q + 1) = ps x y a c f q := by
  have e := pl_no f hq h
  show sumL (pl x y a c f (q + 1)) = sumL (pl x y a c f q)
  rw [e]
theorem pl_all {x y a c : Int} (f : Int × Int → Bool) {q : Nat} (hq : (splitL x y a c).length ≤ q) (g : Sp → Bool) (hg : ∀ e : Int × Int, g (spOf x y a c e) = f e) : pl x y a c f q = (splitL x y a c).filter g := by
  have hq' : (comps x y).length ≤ q := by unfold splitL at hq; simpa using hq
  unfold pl pf
  rw [List.take_of_length_le hq']
  exact (split_filter x y a c g f hg).symm
def fu (m : Int) : Int × Int → Bool := fun e => decide (e.1 = m)
def fl (m : Int) : Int × Int → Bool := fun e => decide (e.2 = m)
theorem p_ps_upper {x y a c : Int} (P : Pair x y a c) {m : Int} (hm : m ∈ proj x) {q : Nat} (hq : (splitL x y a c).length ≤ q) : ps x y a c (fu m) q = ⟨1, 1, true⟩ := by
  have e := pl_all (fu m) hq (fun e => decide (e.u = m)) (fun _ => rfl)
  have h := P.sum_upper hm
  show sumL (pl x y a c (fu m) q) = _
  rw [e]; exact h
theorem p_pl_lower {x y a c : Int} (P : Pair x y a c) {m : Int} (hm : m ∈ proj y) {q : Nat} (hq : (splitL x y a c).length ≤ q) : sumL (pl x y a c (fl m) q) = mkR (x + 1) (y + 1) ∧ (mkR (x + 1) (y + 1)).ok = true := by
  have e := pl_all (fl m) hq (fun e => decide (e.l = m)) (fun _ => rfl)
  rw [e]; exact P.sum_lower hm
theorem p_all {x y a c : Int} (P : Pair x y a c) : sumL (splitL x y a c) = ⟨x + 1, 1, true⟩ := P.sum_all
/-- the kind as the program reckons it -/
theorem p_kinds {x y a c : Int} (P : Pair x y a c) {m : Int} (hm : m = -2 ∨ m = 0 ∨ m = 2) : sumL (kindOf (splitL x y a c) m) = mkR (x + 1) 3 ∧ (mkR (x + 1) 3).ok = true := by
  have e : kindOf (splitL x y a c) m = (splitL x y a c).filter fun e => decide (e.u - e.l = m) := by
    unfold kindOf
    refine List.filter_congr fun s hs => ?_
    unfold splitL at hs
    obtain ⟨e, he, rfl⟩ := List.mem_map.1 hs
    have hb := P.bd he
    have h1 : (spOf x y a c e).u = e.1 := rfl
    have h2 : (spOf x y a c e).l = e.2 := rfl
    rw [h1, h2]
    have : kindW e.1 e.2 = e.1 - e.2 := by unfold kindW; exact wrap_small _ (by omega)
    rw [this]
  rw [e]
  exact P.sum_kind hm
theorem kinds_len (xs : List Sp) (m : Int) : (kindOf xs m).length ≤ xs.length := List.length_filter_le _ _
/-! ### the mean -/
def mv (x y a c m : Int) (q : Nat) : Ro := mkR (mN x y a c m q) (mD x y)
theorem mv_zero {x y a c : Int} (P : Pair x y a c) (m : Int) : mv x y a c m 0 = ⟨0, 1, true⟩ := by
  unfold mv
  rw [mean_zero]
  exact mk_zero P.mD_bd.1
theorem p_mv_ok {x y a c : Int} (P : Pair x y a c) {m : Int} (hm : m = 0 ∨ m = 2) {q : Nat} (hq : q ≤ 19) : (mv x y a c m q).ok = true := by
  unfold mv
  rw [mk_of (P.mean_sm hm hq)]
theorem p_mv_step {x y a c : Int} (P : Pair x y a c) {q : Nat} (hq : q < (splitL x y a c).length) : ∃ z : Ro, z.ok = true ∧ mulR (splitL x y a c)[q].p (splitL x y a c)[q].q (splitL x y a c)[q].s (splitL x y a c)[q].t = z ∧
    ∀ m : Int, m = 0 ∨ m = 2 → ((splitL x y a c)[q].u - (splitL x y a c)[q].l = m → addQ (mv x y a c m q) z = mv x y a c m (q + 1)) ∧ (¬ (splitL x y a c)[q].u - (splitL x y a c)[q].l = m → mv x y a c m (q + 1) = mv x y a c m q) := by
  have hlen := P.len_is.1
  obtain ⟨z, hz, h1, h2⟩ := P.prod hq
  refine ⟨mkR z (mD x y), by rw [mk_of hz], h1, fun m hm => ⟨fun h => ?_, fun h => ?_⟩⟩
  · unfold mv
    rw [(h2 m).1 h]
    exact cadd (P.mean_sm hm (by omega)) hz
  · unfold mv
    rw [(h2 m).2 h]
end Go.Proofs.YtpollgibgphipaaDoor.SplE
