/-
  The draws of two levels and of components.
-/
import Derived.Test.YtdejlinldocfjaaDrawNear
import Derived.Test.YtdejlinldocfjaaSplS
import Derived.Test.YtdejlinldocfjaaSplitR
import Derived.RegionTactic
namespace Go.Proofs.Ytdejlinldocfjaa.DrawSpl
open Go.RowKit Go.Proofs.Ytdejlinldocfjaa.RatP Go.Proofs.Ytdejlinldocfjaa.SplitPlain Go.Proofs.Ytdejlinldocfjaa.SplitP Go.Proofs.Ytdejlinldocfjaa.SplitDef Go.Proofs.Ytdejlinldocfjaa.Fac Go.Proofs.Ytdejlinldocfjaa.SplS Go.Proofs.Ytdejlinldocfjaa.Spin Go.Proofs.Ytdejlinldocfjaa.Row Go.Proofs.Ytdejlinldocfjaa.Coupled Go.Proofs.Ytdejlinldocfjaa.Rd Go.Proofs.Ytdejlinldocfjaa.DrawTerm Go.Proofs.Ytdejlinldocfjaa.DrawNear
set_option linter.unusedVariables false
set_option linter.unusedSimpArgs false

theorem own_only {w w' : World} {base : Nat} {e : TypeId} {k : Nat} {v : Value} {n : Nat} {cs : List Value} {R : Nat} (h : w.ownsRow base e k v n cs) (hg : w.grownBy w' (some R)) (hR : R < base) : w'.ownsRow base e k v n cs := by
  refine ⟨h.1, ?_⟩
  rcases h.2 with h0 | ⟨g, cap, cur, h1, h2, h3, h4⟩
  · exact .inl h0
  · exact .inr ⟨g, cap, cur, h1, h2, by rw [hg.block g (lt_of_block h3) (by intro e; injection e; omega)]; exact h3, h4⟩
def SomePair (R : Nat) (K : Int) (w : World) (e : Ending) (w' : World) : Prop :=
  ∃ s l j s' l' j' : Int, e = .returned (.tuple #[.agg #[.int .i64 s, .int .i64 l, .int .i64 j], .agg #[.int .i64 s', .int .i64 l', .int .i64 j']]) ∧ w.grownBy w' (some R) ∧ Rd w' R (K + 22)
set_option maxRecDepth 100000 in
set_option maxHeartbeats 4000000 in
theorem l92Split (R : Nat) (K : Int) (w : World) (hr : Rd w R K) (hK : K ≤ 800000) :
    Calls Try.prog 50 #[.pointer (some ⟨R, 0, none⟩)] w (SomePair R K w) := by
  have hR := hr.lt
  have n0 : w.heap.size ≠ R := by omega
  have n1 : w.heap.size + 1 ≠ R := by omega
  have N0 := Lib.hid n0
  have N1 := Lib.hid n1
  clear n0 n1
  go_enter Try.func50, Try.ntmps50
  go_wp2_with fail
  (with_reducible refine (l92Near R K _ (by repeat (first | (with_reducible assumption) | (with_reducible refine Rd.alloc ?_ _) | (with_reducible refine Rd.setCell ?_ ?_ _) | (with_reducible refine Rd.drew ?_) | omega | (simp <;> omega))) (by omega)).mono ?_)
  rintro e w1 ⟨s, l, j, s', l', j', q1, q2, rfl, g1, r1⟩
  have tn0 := two_new w (.cells #[.int .i64 0, .int .i64 0, .int .i64 0] 68) (.cells #[.int .i64 0, .int .i64 0, .int .i64 0] 68)
  have HA1 := Lib.hid ((g1.block w.heap.size (by simp; omega) (fun e => N0.out (by injection e))).trans tn0.1)
  have HC1 := Lib.hid ((g1.block (w.heap.size + 1) (by simp) (fun e => N1.out (by injection e))).trans tn0.2)
  have G1 : w.grownBy w1 (some R) := only_trans (by repeat (first | (with_reducible assumption) | (with_reducible refine only_drew ?_) | (with_reducible refine only_drewN ?_ _) | (with_reducible refine only_alloc ?_ _) | (with_reducible refine only_setCell ?_ ?_ _) | (with_reducible exact only_refl _ _) | omega | (simp <;> omega))) g1 (fun g h => .inl h.symm)
  have s1 := g1.size
  simp at s1
  clear g1 tn0
  have nX : w1.heap.size ≠ R := by have := r1.lt; omega
  have nY : w1.heap.size + 1 ≠ R := by have := r1.lt; omega
  have NX := Lib.hid nX
  have NY := Lib.hid nY
  clear nX nY
  have tn := two_new w1 (.cells #[.int .i64 s, .int .i64 l, .int .i64 j] 68) (.cells #[.int .i64 s', .int .i64 l', .int .i64 j'] 68)
  have TN := Lib.hid tn
  clear tn
  have z1 : ¬ w.heap.size = w1.heap.size := by omega
  have z2 : ¬ w.heap.size = w1.heap.size + 1 := by omega
  have z3 : ¬ w.heap.size + 1 = w1.heap.size := by omega
  have z4 : ¬ w.heap.size + 1 = w1.heap.size + 1 := by omega
  have hT := fun W => sSpinTriangle j j' 2 W
  cases ht : tri j j' 2
  · rw [ht] at hT
    have HT := Lib.hid hT
    clear hT ht
    go_wp2_with fail
    (with_reducible refine (HT.out _).mono ?_)
    rintro e w' ⟨rfl, rfl⟩
    go_wp2_with fail
    (with_reducible refine (pick_any R (K + 20) _ _ (by repeat (first | (with_reducible assumption) | (with_reducible refine Rd.alloc ?_ _) | (with_reducible refine Rd.setCell ?_ ?_ _) | (with_reducible refine Rd.drew ?_) | omega | (simp <;> omega))) (by omega) (by omega)).mono ?_)
    rintro e w2 ⟨v2, v2l, v2h, rfl, m2⟩
    have r2 := m2.rd
    have HB2 := Lib.hid (fun (i : Nat) (h : i ≠ R) => m2.block h)
    have ms2 := m2.2.1
    have G2 : w.grownBy w2 (some R) := only_trans (by repeat (first | (with_reducible assumption) | (with_reducible refine only_drew ?_) | (with_reducible refine only_drewN ?_ _) | (with_reducible refine only_alloc ?_ _) | (with_reducible refine only_setCell ?_ ?_ _) | (with_reducible exact only_refl _ _) | omega | (simp <;> omega))) m2.1 (fun g h => .inl h.symm)
    (try simp [] at ms2)
    clear m2
    have HX2 := Lib.hid ((HB2.out _ NX.out).trans TN.out.1)
    have HY2 := Lib.hid ((HB2.out _ NY.out).trans TN.out.2)
    have HA2 := Lib.hid ((HB2.out _ N0.out).trans ((Below.heap_alloc _ _ _ (by simp; omega)).trans ((Below.heap_alloc _ _ _ (by omega)).trans HA1.out)))
    have HC2 := Lib.hid ((HB2.out _ N1.out).trans ((Below.heap_alloc _ _ _ (by simp; omega)).trans ((Below.heap_alloc _ _ _ (by omega)).trans HC1.out)))
    clear HB2 HA1 HC1
    by_cases hv : 0 < v2
    · go_wp2_with fail
      (with_reducible refine (pick_any R (K + 20 + 1) _ _ (by repeat (first | (with_reducible assumption) | (with_reducible refine Rd.alloc ?_ _) | (with_reducible refine Rd.setCell ?_ ?_ _) | (with_reducible refine Rd.drew ?_) | omega | (simp <;> omega))) (by omega) (by omega)).mono ?_)
      rintro e w3 ⟨v3, v3l, v3h, rfl, m3⟩
      have r3 := m3.rd
      have HB3 := Lib.hid (fun (i : Nat) (h : i ≠ R) => m3.block h)
      have ms3 := m3.2.1
      have G3 : w.grownBy w3 (some R) := only_trans (by repeat (first | (with_reducible assumption) | (with_reducible refine only_drew ?_) | (with_reducible refine only_drewN ?_ _) | (with_reducible refine only_alloc ?_ _) | (with_reducible refine only_setCell ?_ ?_ _) | (with_reducible exact only_refl _ _) | omega | (simp <;> omega))) m3.1 (fun g h => .inl h.symm)
      (try simp [] at ms3)
      clear m3
      have HA3 := Lib.hid ((HB3.out _ N0.out).trans HA2.out)
      have HC3 := Lib.hid ((HB3.out _ N1.out).trans HC2.out)
      obtain ⟨a0, a1, a2, fa0, fa1, fa2⟩ := blk3 HA3.out
      obtain ⟨c0, c1, c2, fc0, fc1, fc2⟩ := blk3 HC3.out
      clear HB3
      go_wp2
      refine bodyPost_ret (v := .tuple #[.agg #[.int .i64 1, .int .i64 1, .int .i64 (1 + 2 * v3)], .agg #[.int .i64 1, .int .i64 0, .int .i64 1]]) (by simp [results, Try.results50, go_sem, *, lt2, lt3, lt4, lt5, lt6]) rfl ⟨1, 1, 1 + 2 * v3, 1, 0, 1, rfl, (by repeat (first | (with_reducible assumption) | (with_reducible refine only_drew ?_) | (with_reducible refine only_drewN ?_ _) | (with_reducible refine only_alloc ?_ _) | (with_reducible refine only_setCell ?_ ?_ _) | (with_reducible exact only_refl _ _) | omega | (simp <;> omega))), Rd.mono (K := K + 20 + 1 + 1) (by repeat (first | (with_reducible assumption) | (with_reducible refine Rd.alloc ?_ _) | (with_reducible refine Rd.setCell ?_ ?_ _) | (with_reducible refine Rd.drew ?_) | omega | (simp <;> omega))) (by omega)⟩
    · obtain ⟨a0, a1, a2, fa0, fa1, fa2⟩ := blk3 HA2.out
      obtain ⟨c0, c1, c2, fc0, fc1, fc2⟩ := blk3 HC2.out
      obtain ⟨x0, x1, x2, _, _, _⟩ := blk3 HX2.out
      obtain ⟨y0, y1, y2, _, _, _⟩ := blk3 HY2.out
      go_wp2_with fail
      go_region
      go_wp2
      refine bodyPost_ret (v := .tuple #[.agg #[.int .i64 s, .int .i64 l, .int .i64 j], .agg #[.int .i64 s', .int .i64 l', .int .i64 j']]) (by simp [results, Try.results50, go_sem, *, lt2, lt3, lt4, lt5, lt6]) rfl ⟨s, l, j, s', l', j', rfl, (by repeat (first | (with_reducible assumption) | (with_reducible refine only_drew ?_) | (with_reducible refine only_drewN ?_ _) | (with_reducible refine only_alloc ?_ _) | (with_reducible refine only_setCell ?_ ?_ _) | (with_reducible exact only_refl _ _) | omega | (simp <;> omega))), Rd.mono (K := K + 20 + 1) (by repeat (first | (with_reducible assumption) | (with_reducible refine Rd.alloc ?_ _) | (with_reducible refine Rd.setCell ?_ ?_ _) | (with_reducible refine Rd.drew ?_) | omega | (simp <;> omega))) (by omega)⟩
  · rw [ht] at hT
    have HT := Lib.hid hT
    have y1 : w.heap.size < w1.heap.size := by omega
    have y2 : w.heap.size + 1 < w1.heap.size := by omega
    obtain ⟨a0, a1, a2, fa0, fa1, fa2⟩ := blk3 HA1.out
    obtain ⟨c0, c1, c2, fc0, fc1, fc2⟩ := blk3 HC1.out
    clear hT ht
    go_wp2_with fail
    (with_reducible refine (HT.out _).mono ?_)
    rintro e w' ⟨rfl, rfl⟩
    go_wp2_with fail
    go_region
    go_wp2
    refine bodyPost_ret (v := .tuple #[.agg #[.int .i64 s, .int .i64 l, .int .i64 j], .agg #[.int .i64 s', .int .i64 l', .int .i64 j']]) (by simp [results, Try.results50, go_sem, *, lt2, lt3, lt4, lt5, lt6]) rfl ⟨s, l, j, s', l', j', rfl, (by repeat (first | (with_reducible assumption) | (with_reducible refine only_drew ?_) | (with_reducible refine only_drewN ?_ _) | (with_reducible refine only_alloc ?_ _) | (with_reducible refine only_setCell ?_ ?_ _) | (with_reducible exact only_refl _ _) | omega | (simp <;> omega))), Rd.mono (K := K + 20) (by repeat (first | (with_reducible assumption) | (with_reducible refine Rd.alloc ?_ _) | (with_reducible refine Rd.setCell ?_ ?_ _) | (with_reducible refine Rd.drew ?_) | omega | (simp <;> omega))) (by omega)⟩


/-- what SplitOf returns, and what the draw may put behind it -/
theorem splitOf_any (s l j s' l' j' : Int) (w : World) : Calls Try.prog 51 #[.agg #[.int .i64 s, .int .i64 l, .int .i64 j], .agg #[.int .i64 s', .int .i64 l', .int .i64 j']] w fun e w' =>
    ∃ (ok : Bool) (xs : List Sp), (DrawnL xs ∧ DrawnL (xs ++ [⟨4, 2, 0, 0, 0, 0⟩]) ∧ DrawnL (xs ++ [⟨3, 3, 1, 7, 1, 3⟩])) ∧ GivesSplits ok xs w e w' := by
  cases h : splitOk s l j s' l' j'
  · exact (sSplitOf_no s l j s' l' j' w h).mono fun _ _ g => ⟨false, [], drawn_nil, g⟩
  · exact (sSplitOf_yes s l j s' l' j' w h).mono fun _ _ g => ⟨true, _, (splitOk_pair h).pair.drawn, g⟩
def SomeSplits (R : Nat) (K : Int) (w : World) (e : Ending) (w' : World) : Prop :=
  ∃ (v : Value) (xs : List Sp), DrawnL xs ∧ e = .returned v ∧ w'.ownsRow w.heap.size 40 6 v xs.length (xs.flatMap encSp) ∧ w.grownBy w' (some R) ∧ Rd w' R (K + 23)
set_option maxRecDepth 100000 in
set_option maxHeartbeats 4000000 in
theorem l92Splits (R : Nat) (K : Int) (w : World) (hr : Rd w R K) (hK : K ≤ 700000) :
    Calls Try.prog 38 #[.pointer (some ⟨R, 0, none⟩)] w (SomeSplits R K w) := by
  obtain ⟨i0, hi, hz0, hz1, hz2⟩ := info_parts infoSplit'
  have HI := Lib.hid hi
  have HZ0 := Lib.hid hz0
  have HZ1 := Lib.hid hz1
  have HZ2 := Lib.hid hz2
  clear hi hz0 hz1 hz2
  have hR := hr.lt
  go_enter Try.func38, Try.ntmps38
  go_wp2_with fail
  (with_reducible refine (l92Split R K _ (by repeat (first | (with_reducible assumption) | (with_reducible refine Rd.alloc ?_ _) | (with_reducible refine Rd.setCell ?_ ?_ _) | (with_reducible refine Rd.drew ?_) | omega | (simp <;> omega))) (by omega)).mono ?_)
  rintro e w1 ⟨s, l, j, s', l', j', rfl, G1, r1⟩
  have s1 := G1.size
  go_wp2_with fail
  (with_reducible refine (splitOf_any s l j s' l' j' _).mono ?_)
  rintro e w2 ⟨ok, xs, ⟨D0, D1, D2⟩, v, rfl, O2, b2⟩
  have r2 : Rd w2 R (K + 22) := Rd.below (by repeat (first | (with_reducible assumption) | (with_reducible refine Rd.alloc ?_ _) | (with_reducible refine Rd.setCell ?_ ?_ _) | (with_reducible refine Rd.drew ?_) | omega | (simp <;> omega))) (b2.mono (by simp; omega))
  have G2 : w.grownBy w2 (some R) := only_below (by repeat (first | (with_reducible assumption) | (with_reducible refine only_drew ?_) | (with_reducible refine only_drewN ?_ _) | (with_reducible refine only_alloc ?_ _) | (with_reducible refine only_setCell ?_ ?_ _) | (with_reducible exact only_refl _ _) | omega | (simp <;> omega))) b2
  have s2 := b2.size
  simp at s2
  have HO2 := Lib.hid (own_base O2 (by simp; omega) : w2.ownsRow w.heap.size 40 6 v xs.length (xs.flatMap encSp))
  have HD0 := Lib.hid D0
  have HD1 := Lib.hid D1
  have HD2 := Lib.hid D2
  have hlen : xs.length ≤ 20 := D0.1
  clear b2 O2 D0 D1 D2 r1 G1
  go_wp2_with fail
  (with_reducible refine (pick_any R (K + 22) _ _ (by repeat (first | (with_reducible assumption) | (with_reducible refine Rd.alloc ?_ _) | (with_reducible refine Rd.setCell ?_ ?_ _) | (with_reducible refine Rd.drew ?_) | omega | (simp <;> omega))) (by omega) (by omega)).mono ?_)
  rintro e w3 ⟨v3, v3l, v3h, rfl, m3⟩
  have r3 := m3.rd
  have O3 := own_only HO2.out m3.1 (by omega)
  have G3 : w.grownBy w3 (some R) := only_trans (by repeat (first | (with_reducible assumption) | (with_reducible refine only_drew ?_) | (with_reducible refine only_drewN ?_ _) | (with_reducible refine only_alloc ?_ _) | (with_reducible refine only_setCell ?_ ?_ _) | (with_reducible exact only_refl _ _) | omega | (simp <;> omega))) m3.1 (fun g h => .inl h.symm)
  have s3 := Nat.le_of_eq m3.2.1.symm
  clear m3 HO2
  by_cases h0 : v3 = 0
  · subst h0
    go_wp2_with (at_builtin; refine wpList_append_own _ rfl _ _ 24 rfl w.heap.size 40 i0 (.agg #[.int .i64 0, .int .i64 0, .int .i64 0, .int .i64 0, .int .i64 0, .int .i64 0]) 6 48 Try.underlying24 HI.out HZ0.out HZ1.out HZ2.out rfl (by decide) _ _ _ rfl (O3.alloc _) ⟨w3.heap.size, 0, none⟩ 1 1 [.int .i64 4, .int .i64 2, .int .i64 0, .int .i64 0, .int .i64 0, .int .i64 0] rfl rfl (cells_new _ _ _) (by simp [Value.oneCell']) (by unfold maxLen; omega) (by omega) (by simp; omega) ?_)
    intro v' w4 O4 hgrow _
    have G4 := only_step G3 (fun g h => .inr (O3.lt g h).1) hgrow
    have r4 := r3.below (own_step (w := w3) (B := R + 1) (Below.refl _ _) (by omega) hgrow (fun k hk => by have := (O3.lt k hk).1; omega))
    have O5 : w4.ownsRow w.heap.size 40 6 v' (xs ++ [(⟨4, 2, 0, 0, 0, 0⟩ : Sp)]).length ((xs ++ [(⟨4, 2, 0, 0, 0, 0⟩ : Sp)]).flatMap encSp) := by
      rw [List.flatMap_append, List.length_append]
      exact O4
    clear hgrow O4 O3 G3 r3
    go_wp2
    go_ret
    exact ⟨v', _, HD1.out, rfl, O5, G4, r4.mono (by omega)⟩
  by_cases h1 : v3 = 1
  · subst h1
    go_wp2_with (at_builtin; refine wpList_append_own _ rfl _ _ 24 rfl w.heap.size 40 i0 (.agg #[.int .i64 0, .int .i64 0, .int .i64 0, .int .i64 0, .int .i64 0, .int .i64 0]) 6 48 Try.underlying24 HI.out HZ0.out HZ1.out HZ2.out rfl (by decide) _ _ _ rfl (O3.alloc _) ⟨w3.heap.size, 0, none⟩ 1 1 [.int .i64 3, .int .i64 3, .int .i64 1, .int .i64 7, .int .i64 1, .int .i64 3] rfl rfl (cells_new _ _ _) (by simp [Value.oneCell']) (by unfold maxLen; omega) (by omega) (by simp; omega) ?_)
    intro v' w4 O4 hgrow _
    have G4 := only_step G3 (fun g h => .inr (O3.lt g h).1) hgrow
    have r4 := r3.below (own_step (w := w3) (B := R + 1) (Below.refl _ _) (by omega) hgrow (fun k hk => by have := (O3.lt k hk).1; omega))
    have O5 : w4.ownsRow w.heap.size 40 6 v' (xs ++ [(⟨3, 3, 1, 7, 1, 3⟩ : Sp)]).length ((xs ++ [(⟨3, 3, 1, 7, 1, 3⟩ : Sp)]).flatMap encSp) := by
      rw [List.flatMap_append, List.length_append]
      exact O4
    clear hgrow O4 O3 G3 r3
    go_wp2
    go_ret
    exact ⟨v', _, HD2.out, rfl, O5, G4, r4.mono (by omega)⟩
  · have e0 : (v3 == 0) = false := by simp [h0]
    have e1 : (v3 == 1) = false := by simp [h1]
    go_wp2
    go_ret
    exact ⟨v, xs, HD0.out, rfl, O3, G3, r3.mono (by omega)⟩

def SomeSp (w : World) (e : Ending) (w' : World) : Prop :=
  ∃ (v : Value) (xs : List Sp), DrawnL xs ∧ e = .returned v ∧ w'.ownsRow w.heap.size 40 6 v xs.length (xs.flatMap encSp) ∧ Below w.heap.size w w'
theorem drawSplitSum (a : Option Addr) (n c : Nat) (zs : List Int) (w : World) (h : IsRow .u8 w a n c zs) :
    Calls Try.prog 23 #[.slice a n c] w (SomeSp w) := by
  have HO := Lib.hid (open_any a n c zs _ h)
  clear h
  go_enter Try.func23, Try.ntmps23
  go_wp2_with fail
  refine HO.out.mono ?_
  rintro e w1 ⟨rfl, b1, s1, r1⟩
  clear HO
  go_wp2_with fail
  (with_reducible refine (l92Splits w.heap.size 0 _ (by repeat (first | (with_reducible assumption) | (with_reducible refine Rd.alloc ?_ _) | (with_reducible refine Rd.setCell ?_ ?_ _) | (with_reducible refine Rd.drew ?_) | omega | (simp <;> omega))) (by omega)).mono ?_)
  rintro e w2 ⟨v, xs, hD, rfl, O2, g2, r2⟩
  have B2 : Below w.heap.size w w2 := below_only b1 g2 (by omega) (fun g h => by injection h; omega)
  have O2' := own_base O2 (show w.heap.size ≤ w1.heap.size by omega)
  have HD := Lib.hid hD
  clear g2 r2 r1 b1 O2 hD
  go_wp2
  go_ret
  exact ⟨v, xs, HD.out, rfl, O2', B2⟩
theorem drawSplitSpan (a : Option Addr) (n c : Nat) (zs : List Int) (w : World) (h : IsRow .u8 w a n c zs) :
    Calls Try.prog 25 #[.slice a n c] w (SomeSp w) := by
  have HO := Lib.hid (open_any a n c zs _ h)
  clear h
  go_enter Try.func25, Try.ntmps25
  go_wp2_with fail
  refine HO.out.mono ?_
  rintro e w1 ⟨rfl, b1, s1, r1⟩
  clear HO
  go_wp2_with fail
  (with_reducible refine (l92Splits w.heap.size 0 _ (by repeat (first | (with_reducible assumption) | (with_reducible refine Rd.alloc ?_ _) | (with_reducible refine Rd.setCell ?_ ?_ _) | (with_reducible refine Rd.drew ?_) | omega | (simp <;> omega))) (by omega)).mono ?_)
  rintro e w2 ⟨v, xs, hD, rfl, O2, g2, r2⟩
  have B2 : Below w.heap.size w w2 := below_only b1 g2 (by omega) (fun g h => by injection h; omega)
  have O2' := own_base O2 (show w.heap.size ≤ w1.heap.size by omega)
  have HD := Lib.hid hD
  clear g2 r2 r1 b1 O2 hD
  go_wp2
  go_ret
  exact ⟨v, xs, HD.out, rfl, O2', B2⟩
end Go.Proofs.Ytdejlinldocfjaa.DrawSpl
