/-
  The draws of two levels and of components.
-/
import Derived.Test.YtpollgibgphipaaDoorDrawNear
import Derived.Test.YtpollgibgphipaaDoorSplS
import Derived.Test.YtpollgibgphipaaDoorSplitR
import Derived.RegionTactic
namespace Go.Proofs.YtpollgibgphipaaDoor.DrawSpl
open Go.RowKit Go.Proofs.YtpollgibgphipaaDoor.RatP Go.Proofs.YtpollgibgphipaaDoor.SplitPlain Go.Proofs.YtpollgibgphipaaDoor.SplitP Go.Proofs.YtpollgibgphipaaDoor.SplitDef Go.Proofs.YtpollgibgphipaaDoor.Fac Go.Proofs.YtpollgibgphipaaDoor.SplS Go.Proofs.YtpollgibgphipaaDoor.Spin Go.Proofs.YtpollgibgphipaaDoor.Row Go.Proofs.YtpollgibgphipaaDoor.Coupled Go.Proofs.YtpollgibgphipaaDoor.Rd Go.Proofs.YtpollgibgphipaaDoor.DrawTerm Go.Proofs.YtpollgibgphipaaDoor.DrawNear
set_option linter.unusedVariables false
set_option linter.unusedSimpArgs false

theorem own_only {w w' : World} {base : Nat} {e : TypeId} {k : Nat} {v : Value} {n : Nat} {cs : List Value} {R : Nat} (h : w.ownsRow base e k v n cs) (hg : w.grownBy w' (some R)) (hR : R < base) : w'.ownsRow base e k v n cs := by
  refine ⟨h.1, ?_⟩
  rcases h.2 with h0 | ⟨g, cap, cur, h1, h2, h3, h4⟩
  · exact .inl h0
  · exact .inr ⟨g, cap, cur, h1, h2, by rw [hg.block g (lt_of_block h3) (by intro e; injection e; omega)]; exact h3, h4⟩
def SomePair (R : Nat) (K : Int) (w : World) (e : Ending) (w' : World) : Prop :=
  ∃ s l j s' l' j' : Int, e = .returned (.tuple #[.agg #[.int .i64 s, .int .i64 l, .int .i64 j], .agg #[.int .i64 s', .int .i64 l', .int .i64 j']]) ∧ w.grownBy w' (some R) ∧ Rd w' R (K + 22)
set_option maxRecDepth 100000 in
set_option maxHeartbeats 4000000 in
theorem l92Split (R : Nat) (K : Int) (w : World) (hr : Rd w R K) (hK : K ≤ 800000) :
    Calls Tryd.prog 23 #[.pointer (some ⟨R, 0, none⟩)] w (SomePair R K w) := by
  have hR := hr.lt
  have n0 : w.heap.size ≠ R := by omega
  have n1 : w.heap.size + 1 ≠ R := by omega
  have N0 := Lib.hid n0
  have N1 := Lib.hid n1
  clear n0 n1
  go_enter Tryd.func23, Tryd.ntmps23
  go_wp2_with fail
  (with_reducible refine (l92Near R K _ (by repeat (first | (with_reducible assumption) | (with_reducible refine Rd.alloc ?_ _) | (with_reducible refine Rd.setCell ?_ ?_ _) | (with_reducible refine Rd.drew ?_) | omega | (simp <;> omega))) (by omega)).mono ?_)
  rintro e w1 ⟨s, l, j, s', l', j', q1, q2, rfl, g1, r1⟩
  have tn0 := two_new w (.cells #[.int .i64 0, .int .i64 0, .int .i64 0] 26) (.cells #[.int .i64 0, .int .i64 0, .int .i64 0] 26)
  have HA1 := Lib.hid ((g1.block w.heap.size (by simp; omega) (fun e => N0.out (by injection e))).trans tn0.1)
  have HC1 := Lib.hid ((g1.block (w.heap.size + 1) (by simp) (fun e => N1.out (by injection e))).trans tn0.2)
  have G1 : w.grownBy w1 (some R) := only_trans (by repeat (first | (with_reducible assumption) | (with_reducible refine only_drew ?_) | (with_reducible refine only_drewN ?_ _) | (with_reducible refine only_alloc ?_ _) | (with_reducible refine only_setCell ?_ ?_ _) | (with_reducible exact only_refl _ _) | omega | (simp <;> omega))) g1 (fun g h => .inl h.symm)
  have s1 := g1.size
  simp at s1
  clear g1 tn0
  have nX : w1.heap.size ≠ R := by have := r1.lt; omega
  have nY : w1.heap.size + 1 ≠ R := by have := r1.lt; omega
  have NX := Lib.hid nX
  have NY := Lib.hid nY
  clear nX nY
  have tn := two_new w1 (.cells #[.int .i64 s, .int .i64 l, .int .i64 j] 26) (.cells #[.int .i64 s', .int .i64 l', .int .i64 j'] 26)
  have TN := Lib.hid tn
  clear tn
  have z1 : ¬ w.heap.size = w1.heap.size := by omega
  have z2 : ¬ w.heap.size = w1.heap.size + 1 := by omega
  have z3 : ¬ w.heap.size + 1 = w1.heap.size := by omega
  have z4 : ¬ w.heap.size + 1 = w1.heap.size + 1 := by omega
  have hT := fun W => sSpinTriangle j j' 2 W
  cases ht : tri j j' 2
  · rw [ht] at hT
    have HT := Lib.hid hT
    clear hT ht
    go_wp2_with fail
    (with_reducible refine (HT.out _).mono ?_)
    rintro e w' ⟨rfl, rfl⟩
    go_wp2_with fail
    (with_reducible refine (pick_any R (K + 20) _ _ (by repeat (first | (with_reducible assumption) | (with_reducible refine Rd.alloc ?_ _) | (with_reducible refine Rd.setCell ?_ ?_ _) | (with_reducible refine Rd.drew ?_) | omega | (simp <;> omega))) (by omega) (by omega)).mono ?_)
    rintro e w2 ⟨v2, v2l, v2h, rfl, m2⟩
    have r2 := m2.rd
    have HB2 := Lib.hid (fun (i : Nat) (h : i ≠ R) => m2.block h)
    have ms2 := m2.2.1
    have G2 : w.grownBy w2 (some R) := only_trans (by repeat (first | (with_reducible assumption) | (with_reducible refine only_drew ?_) | (with_reducible refine only_drewN ?_ _) | (with_reducible refine only_alloc ?_ _) | (with_reducible refine only_setCell ?_ ?_ _) | (with_reducible exact only_refl _ _) | omega | (simp <;> omega))) m2.1 (fun g h => .inl h.symm)
    (try simp [] at ms2)
    clear m2
    have HX2 := Lib.hid ((HB2.out _ NX.out).trans TN.out.1)
    have HY2 := Lib.hid ((HB2.out _ NY.out).trans TN.out.2)
    have HA2 := Lib.hid ((HB2.out _ N0.out).trans ((Below.heap_alloc _ _ _ (by simp; omega)).trans ((Below.heap_alloc _ _ _ (by omega)).trans HA1.out)))
    have HC2 := Lib.hid ((HB2.out _ N1.out).trans ((Below.heap_alloc _ _ _ (by simp; omega)).trans ((Below.heap_alloc _ _ _ (by omega)).trans HC1.out)))
    clear HB2 HA1 HC1
    by_cases hv : 0 < v2
    · go_wp2_with fail
      (with_reducible refine (pick_any R (K + 20 + 1) _ _ (by repeat (first | (with_reducible assumption) | (with_reducible refine Rd.alloc ?_ _) | (with_reducible refine Rd.setCell ?_ ?_ _) | (with_reducible refine Rd.drew ?_) | omega | (simp <;> omega))) (by omega) (by omega)).mono ?_)
      rintro e w3 ⟨v3, v3l, v3h, rfl, m3⟩
      have r3 := m3.rd
      have HB3 := Lib.hid (fun (i : Nat) (h : i ≠ R) => m3.block h)
      have ms3 := m3.2.1
      have G3 : w.grownBy w3 (some R) := only_trans (by repeat (first | (with_reducible assumption) | (with_reducible refine only_drew ?_) | (with_reducible refine only_drewN ?_ _) | (with_reducible refine only_alloc ?_ _) | (with_reducible refine only_setCell ?_ ?_ _) | (with_reducible exact only_refl _ _) | omega | (simp <;> omega))) m3.1 (fun g h => .inl h.symm)
      (try simp [] at ms3)
      clear m3
      have HA3 := Lib.hid ((HB3.out _ N0.out).trans HA2.out)
      have HC3 := Lib.hid ((HB3.out _ N1.out).trans HC2.out)
      obtain ⟨a0, a1, a2, fa0, fa1, fa2⟩ := blk3 HA3.out
      obtain ⟨c0, c1, c2, fc0, fc1, fc2⟩ := blk3 HC3.out
      clear HB3
      go_wp2
      refine bodyPost_ret (v := .tuple #[.agg #[.int .i64 1, .int .i64 1, .int .i64 (1 + 2 * v3)], .agg #[.int .i64 1, .int .i64 0, .int .i64 1]]) (by simp [results, Tryd.results23, go_sem, *, lt2, lt3, lt4, lt5, lt6]) rfl ⟨1, 1, 1 + 2 * v3, 1, 0, 1, rfl, (by repeat (first | (with_reducible assumption) | (with_reducible refine only_drew ?_) | (with_reducible refine only_drewN ?_ _) | (with_reducible refine only_alloc ?_ _) | (with_reducible refine only_setCell ?_ ?_ _) | (with_reducible exact only_refl _ _) | omega | (simp <;> omega))), Rd.mono (K := K + 20 + 1 + 1) (by repeat (first | (with_reducible assumption) | (with_reducible refine Rd.alloc ?_ _) | (with_reducible refine Rd.setCell ?_ ?_ _) | (with_reducible refine Rd.drew ?_) | omega | (simp <;> omega))) (by omega)⟩
    · obtain ⟨a0, a1, a2, fa0, fa1, fa2⟩ := blk3 HA2.out
      obtain ⟨c0, c1, c2, fc0, fc1, fc2⟩ := blk3 HC2.out
      obtain ⟨x0, x1, x2, _, _, _⟩ := blk3 HX2.out
      obtain ⟨y0, y1, y2, _, _, _⟩ := blk3 HY2.out
      go_wp2_with fail
      go_region
      go_wp2
      refine bodyPost_ret (v := .tuple #[.agg #[.int .i64 s, .int .i64 l, .int .i64 j], .agg #[.int .i64 s', .int .i64 l', .int .i64 j']]) (by simp [results, Tryd.results23, go_sem, *, lt2, lt3, lt4, lt5, lt6]) rfl ⟨s, l, j, s', l', j', rfl, (by repeat (first | (with_reducible assumption) | (with_reducible refine only_drew ?_) | (with_reducible refine only_drewN ?_ _) | (with_reducible refine only_alloc ?_ _) | (with_reducible refine only_setCell ?_ ?_ _) | (with_reducible exact only_refl _ _) | omega | (simp <;> omega))), Rd.mono (K := K + 20 + 1) (by repeat (first | (with_reducible assumption) | (with_reducible refine Rd.alloc ?_ _) | (with_reducible refine Rd.setCell ?_ ?_ _) | (with_reducible refine Rd.drew ?_) | omega | (simp <;> omega))) (by omega)⟩
  · rw [ht] at hT
    have HT := Lib.hid hT
    have y1 : w.heap.size < w1.heap.size := by omega
    have y2 : w.heap.size + 1 < w1.heap.size := by omega
    obtain ⟨a0, a1, a2, fa0, fa1, fa2⟩ := blk3 HA1.out
    obtain ⟨c0, c1, c2, fc0, fc1, fc2⟩ := blk3 HC1.out
    clear hT ht
    go_wp2_with fail
    (with_reducible refine (HT.out _).mono ?_)
    rintro e w' ⟨rfl, rfl⟩
    go_wp2_with fail
    go_region
    go_wp2
    refine bodyPost_ret (v := .tuple #[.agg #[.int .i64 s, .int .i64 l, .int .i64 j], .agg #[.int .i64 s', .int .i64 l', .int .i64 j']]) (by simp [results, Tryd.results23, go_sem, *, lt2, lt3, lt4, lt5, lt6]) rfl ⟨s, l, j, s', l', j', rfl, (by repeat (first | (with_reducible assumption) | (with_reducible refine only_drew ?_) | (with_reducible refine only_drewN ?_ _) | (with_reducible refine only_alloc ?_ _) | (with_reducible refine only_setCell ?_ ?_ _) | (with_reducible exact only_refl _ _) | omega | (simp <;> omega))), Rd.mono (K := K + 20) (by repeat (first | (with_reducible assumption) | (with_reducible refine Rd.alloc ?_ _) | (with_reducible refine Rd.setCell ?_ ?_ _) | (with_reducible refine Rd.drew ?_) | omega | (simp <;> omega))) (by omega)⟩

theorem drawSplitOf (a : Option Addr) (n c : Nat) (zs : List Int) (w : World) (h : IsRow .u8 w a n c zs) :
    Calls Tryd.prog 8 #[.slice a n c] w fun e w' => ∃ s l j s' l' j' : Int, e = .returned (.tuple #[.agg #[.int .i64 s, .int .i64 l, .int .i64 j], .agg #[.int .i64 s', .int .i64 l', .int .i64 j']]) ∧ Below w.heap.size w w' := by
  have hrow : IsRow .u8 ((w.alloc (.cells #[.int .i64 0, .int .i64 0, .int .i64 0] 26)).alloc (.cells #[.int .i64 0, .int .i64 0, .int .i64 0] 26)) a n c zs := h.below (B := w.heap.size) (fun i hi => (Below.heap_alloc _ _ _ (by simp; omega)).trans (Below.heap_alloc _ _ _ hi)) h.lt
  have HO := Lib.hid (open_any a n c zs _ hrow)
  clear h hrow
  go_enter Tryd.func8, Tryd.ntmps8
  go_wp2_with fail
  refine HO.out.mono ?_
  rintro e w1 ⟨rfl, b1, s1, r1⟩
  have tn0 := two_new w (.cells #[.int .i64 0, .int .i64 0, .int .i64 0] 26) (.cells #[.int .i64 0, .int .i64 0, .int .i64 0] 26)
  have HA1 := Lib.hid ((b1.block w.heap.size (by simp; omega)).trans tn0.1)
  have HC1 := Lib.hid ((b1.block (w.heap.size + 1) (by simp)).trans tn0.2)
  have B1 : Below w.heap.size w w1 := Below.trans (by repeat (first | (with_reducible refine Below.drew ?_) | (with_reducible refine below_drewN ?_ _) | (with_reducible refine Below.alloc ?_ ?_ _) | (with_reducible refine Below.setCell ?_ ?_ _) | (with_reducible assumption) | (with_reducible exact Below.refl _ _) | omega | (simp <;> omega))) (b1.mono (by simp; omega))
  simp at s1 r1
  clear b1 HO tn0
  go_wp2_with fail
  (with_reducible refine (l92Split _ 0 _ (by simpa using r1) (by omega)).mono ?_)
  rintro e w2 ⟨s, l, j, s', l', j', rfl, g2, r2⟩
  (try simp only [World.size_alloc] at g2)
  have HA2 := Lib.hid ((g2.block w.heap.size (by omega) (by simp; omega)).trans HA1.out)
  have HC2 := Lib.hid ((g2.block (w.heap.size + 1) (by omega) (by simp)).trans HC1.out)
  have B2 : Below w.heap.size w w2 := below_only B1 g2 B1.size (fun g h => by injection h; omega)
  have hz2 := g2.size
  have y1 : w.heap.size < w2.heap.size := by omega
  have y2 : w.heap.size + 1 < w2.heap.size := by omega
  obtain ⟨a0, a1, a2, fa0, fa1, fa2⟩ := blk3 HA2.out
  obtain ⟨c0, c1, c2, fc0, fc1, fc2⟩ := blk3 HC2.out
  clear g2 r2 B1
  go_wp2
  refine bodyPost_ret (v := .tuple #[.agg #[.int .i64 s, .int .i64 l, .int .i64 j], .agg #[.int .i64 s', .int .i64 l', .int .i64 j']]) (by simp [results, Tryd.results8, go_sem, *, lt2, lt3, lt4, lt5, lt6]) rfl ⟨s, l, j, s', l', j', rfl, (by repeat (first | (with_reducible refine Below.drew ?_) | (with_reducible refine below_drewN ?_ _) | (with_reducible refine Below.alloc ?_ ?_ _) | (with_reducible refine Below.setCell ?_ ?_ _) | (with_reducible assumption) | (with_reducible exact Below.refl _ _) | omega | (simp <;> omega)))⟩


def SomeSp (w : World) (e : Ending) (w' : World) : Prop :=
  ∃ (v : Value) (xs : List Sp), DrawnL xs ∧ e = .returned v ∧ w'.ownsRow w.heap.size 40 6 v xs.length (xs.flatMap encSp) ∧ Below w.heap.size w w'
end Go.Proofs.YtpollgibgphipaaDoor.DrawSpl
