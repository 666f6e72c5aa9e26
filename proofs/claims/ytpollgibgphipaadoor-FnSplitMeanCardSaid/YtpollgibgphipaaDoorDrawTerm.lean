/-
  The draws of terms and levels: they return some term or level, move the reader and change nothing else that was there.
-/
import Derived.Test.YtpollgibgphipaaDoorRd
import Derived.Test.YtpollgibgphipaaDoorCoupled
import Derived.Deep.DeepCutAuto
namespace Go.Proofs.YtpollgibgphipaaDoor.DrawTerm
open Go.RowKit Go.Proofs.YtpollgibgphipaaDoor.Spin Go.Proofs.YtpollgibgphipaaDoor.Row Go.Proofs.YtpollgibgphipaaDoor.Coupled Go.Proofs.YtpollgibgphipaaDoor.Rd
set_option linter.unusedVariables false
set_option linter.unusedSimpArgs false

/-- the reader has moved by at most d; nothing else that was there has turned -/
def Drawn (R : Nat) (K d : Int) (w w' : World) : Prop := w.grownBy w' (some R) ∧ Rd w' R (K + d)

def DrawnTerm (R : Nat) (K d : Int) (w : World) (e : Ending) (w' : World) : Prop :=
  ∃ s l : Int, -1 ≤ s ∧ s ≤ 9 ∧ -1 ≤ l ∧ l ≤ 9 ∧ e = .returned (.agg #[.int .i64 s, .int .i64 l]) ∧ Drawn R K d w w'

theorem three (v : Int) (h0 : 0 ≤ v) (h1 : v < 3) : v = 0 ∨ v = 1 ∨ v = 2 := by omega

def DrawnLevel (R : Nat) (K d : Int) (w : World) (e : Ending) (w' : World) : Prop :=
  ∃ s l j : Int, 0 ≤ s ∧ s ≤ 9 ∧ 0 ≤ l ∧ l ≤ 4 ∧ -2 ≤ j ∧ j ≤ 31 ∧ e = .returned (.agg #[.int .i64 s, .int .i64 l, .int .i64 j]) ∧ Drawn R K d w w'

/-- a term that is drawn has a level; its levels' angular momenta are small -/
theorem js_pos (s l : Int) (hs : 0 ≤ s) (hs' : s ≤ 4) (hl : 0 ≤ l) (hl' : l ≤ 4) : 1 ≤ (levelJs s l).length ∧ ∀ j ∈ levelJs s l, 0 ≤ j ∧ j ≤ 30 := by
  have ht : termOk s l = true := termOk_true.2 (by omega)
  have h1 : spinOk (2 * l) = true := spinOk_true.2 (by omega)
  have h2 : spinOk s = true := spinOk_true.2 (by omega)
  obtain ⟨c1, c2, c3, c4, c5⟩ := count_yes h1 h2 (by omega)
  rw [levelJs_yes ht]
  refine ⟨?_, ?_⟩
  · rw [coupled_len]
    have hc : count (2 * l) s = (min (2 * l) s + 1).toNat := by simp [count, h1, h2]; omega
    omega
  · intro j hj
    unfold coupled upFrom at hj
    obtain ⟨i, hi, rfl⟩ := List.mem_map.1 hj
    have := List.mem_range.1 hi
    omega

/-- the cells of a level's row that the call has made -/
theorem own_level {w : World} {base : Nat} {v : Value} {s l : Int} {js : List Int} (h : w.ownsRow base 26 3 v js.length (js.flatMap (encL s l))) (hn : 1 ≤ js.length) :
    ∃ g c, v = .slice (some ⟨g, 0, none⟩) js.length c ∧ base ≤ g ∧ g < w.heap.size ∧ js.length ≤ c ∧ c ≤ 9223372036854775807 ∧ ∀ k (hk : k < js.length), w.cell? ⟨g, k * 3, none⟩ = some (.int .i64 s) ∧ w.cell? ⟨g, k * 3 + 1, none⟩ = some (.int .i64 l) ∧ w.cell? ⟨g, k * 3 + 2, none⟩ = some (.int .i64 js[k]) := by
  rcases h.2 with ⟨rfl, h0⟩ | ⟨g, c, cur, rfl, hbg, hg, hnc, hcm, _, _⟩
  · omega
  · refine ⟨g, c, rfl, hbg, lt_of_block hg, hnc, by unfold maxLen at hcm; exact hcm, fun k hk => ?_⟩
    have q := fun j (hj : j < 3) => (h.cellAt (k * 3 + j) (by omega)).trans (flat_get (encL s l) 3 (encL_len s l) js k j hk hj)
    exact ⟨q 0 (by omega), q 1 (by omega), q 2 (by omega)⟩

set_option maxRecDepth 100000 in
set_option maxHeartbeats 2000000 in
theorem l92Level (R : Nat) (K : Int) (w : World) (hr : Rd w R K) (hK : K ≤ 1000000) :
    Calls Tryd.prog 63 #[.pointer (some ⟨R, 0, none⟩)] w (DrawnLevel R K 10 w) := by
  have hR := hr.lt
  have n0 : ¬ w.heap.size = R := by omega
  have n1 : ¬ w.heap.size + 1 = R := by omega
  have n2 : ¬ w.heap.size + 1 + 1 = R := by omega
  go_enter Tryd.func63, Tryd.ntmps63
  go_wp2_with fail
  (with_reducible refine (pick_any R (K) _ _ (by repeat (first | (with_reducible assumption) | (with_reducible refine Rd.alloc ?_ _) | (with_reducible refine Rd.setCell ?_ ?_ _) | (with_reducible refine Rd.drew ?_) | omega | (simp <;> omega))) (by omega) (by omega)).mono ?_)
  rintro e w1 ⟨v1, v1l, v1h, rfl, m1⟩
  have r1 := m1.rd
  obtain ⟨mc1, mf1⟩ := mcell m1
  have ms1 := m1.2.1
  have G1 : w.grownBy w1 (some R) := only_trans (by repeat (first | (with_reducible assumption) | (with_reducible refine only_drew ?_) | (with_reducible refine only_drewN ?_ _) | (with_reducible refine only_alloc ?_ _) | (with_reducible refine only_setCell ?_ ?_ _) | (with_reducible exact only_refl _ _) | omega | (simp <;> omega))) m1.1 (fun g h => .inl h.symm)
  (try simp [] at ms1)
  clear m1
  go_wp2_with fail
  (with_reducible refine (pick_any R (K + 1) _ _ (by repeat (first | (with_reducible assumption) | (with_reducible refine Rd.alloc ?_ _) | (with_reducible refine Rd.setCell ?_ ?_ _) | (with_reducible refine Rd.drew ?_) | omega | (simp <;> omega))) (by omega) (by omega)).mono ?_)
  rintro e w2 ⟨v2, v2l, v2h, rfl, m2⟩
  have r2 := m2.rd
  obtain ⟨mc2, mf2⟩ := mcell m2
  have ms2 := m2.2.1
  have G2 : w.grownBy w2 (some R) := only_trans (by repeat (first | (with_reducible assumption) | (with_reducible refine only_drew ?_) | (with_reducible refine only_drewN ?_ _) | (with_reducible refine only_alloc ?_ _) | (with_reducible refine only_setCell ?_ ?_ _) | (with_reducible exact only_refl _ _) | omega | (simp <;> omega))) m2.1 (fun g h => .inl h.symm)
  (try simp [ms1] at ms2)
  clear m2
  obtain ⟨jp, jb⟩ := js_pos v1 v2 (by omega) (by omega) (by omega) (by omega)
  have HJB := Lib.hid jb
  clear jb
  go_wp2_with fail
  (with_reducible refine (sLevelsOf _ _ _).mono ?_)
  rintro e w3 ⟨u3, rfl, O3, b3⟩
  have r3 : Rd w3 R (K + 1 + 1) := Rd.below (by repeat (first | (with_reducible assumption) | (with_reducible refine Rd.alloc ?_ _) | (with_reducible refine Rd.setCell ?_ ?_ _) | (with_reducible refine Rd.drew ?_) | omega | (simp <;> omega))) (b3.mono (by have := hr.lt; first | omega | (simp <;> omega)))
  obtain ⟨mc3, mf3⟩ := bcell b3
  have ms3 := b3.size
  have G3 : w.grownBy w3 (some R) := only_below (by repeat (first | (with_reducible assumption) | (with_reducible refine only_drew ?_) | (with_reducible refine only_drewN ?_ _) | (with_reducible refine only_alloc ?_ _) | (with_reducible refine only_setCell ?_ ?_ _) | (with_reducible exact only_refl _ _) | omega | (simp <;> omega))) b3
  (try simp at ms3)
  generalize levelJs v1 v2 = js at *
  obtain ⟨g, c, rfl, hg1, hg2, hnc, hcm, hcell⟩ := own_level O3 jp
  have n3 : ¬ g = R := by simp at hg1; omega
  obtain ⟨n, hn⟩ : ∃ n, n = js.length := ⟨_, rfl⟩
  have HN := Lib.hid hn
  rw [← hn] at jp hnc ⊢
  have HC := Lib.hid hcell
  clear hn hcell O3 b3
  go_wp2_with fail
  (with_reducible refine (pick_any R (K + 1 + 1) _ _ (by repeat (first | (with_reducible assumption) | (with_reducible refine Rd.alloc ?_ _) | (with_reducible refine Rd.setCell ?_ ?_ _) | (with_reducible refine Rd.drew ?_) | omega | (simp <;> omega))) (by omega) (by omega)).mono ?_)
  rintro e w4 ⟨v4, v4l, v4h, rfl, m4⟩
  have r4 := m4.rd
  obtain ⟨mc4, mf4⟩ := mcell m4
  have ms4 := m4.2.1
  have G4 : w.grownBy w4 (some R) := only_trans (by repeat (first | (with_reducible assumption) | (with_reducible refine only_drew ?_) | (with_reducible refine only_drewN ?_ _) | (with_reducible refine only_alloc ?_ _) | (with_reducible refine only_setCell ?_ ?_ _) | (with_reducible exact only_refl _ _) | omega | (simp <;> omega))) m4.1 (fun g h => .inl h.symm)
  (try simp [] at ms4)
  clear m4
  obtain ⟨k, rfl⟩ := Int.eq_ofNat_of_zero_le v4l
  have hk : k < js.length := by have := HN.out; omega
  obtain ⟨x0, x1, x2⟩ := HC.out k hk
  have hj := HJB.out _ (List.getElem_mem hk)
  generalize js[k] = jk at *
  have n4 : ¬ w3.heap.size = R := by have := r3.lt; omega
  have n5 : ¬ w3.heap.size + 1 = R := by have := r3.lt; omega
  have z0 : ¬ w3.heap.size = w.heap.size := by omega
  have z1 : ¬ w.heap.size = w3.heap.size := by omega
  have z2 : w.heap.size < w3.heap.size + 1 := by omega
  have z3 : w.heap.size < w3.heap.size + 1 + 1 := by omega
  have y3 : w.heap.size < w3.heap.size := by omega
  have y3' : w.heap.size + 1 < w3.heap.size := by omega
  clear HC HJB
  go_wp2_with fail
  (with_reducible refine (pick_any R (K + 1 + 1 + 1) _ _ (by repeat (first | (with_reducible assumption) | (with_reducible refine Rd.alloc ?_ _) | (with_reducible refine Rd.setCell ?_ ?_ _) | (with_reducible refine Rd.drew ?_) | omega | (simp <;> omega))) (by omega) (by omega)).mono ?_)
  rintro e w5 ⟨v5, v5l, v5h, rfl, m5⟩
  have r5 := m5.rd
  obtain ⟨mc5, mf5⟩ := mcell m5
  have ms5 := m5.2.1
  have G5 : w.grownBy w5 (some R) := only_trans (by repeat (first | (with_reducible assumption) | (with_reducible refine only_drew ?_) | (with_reducible refine only_drewN ?_ _) | (with_reducible refine only_alloc ?_ _) | (with_reducible refine only_setCell ?_ ?_ _) | (with_reducible exact only_refl _ _) | omega | (simp <;> omega))) m5.1 (fun g h => .inl h.symm)
  (try simp [] at ms5)
  clear m5
  go_wp2_with fail
  · refine bodyPost_ret (v := .agg #[.int .i64 v1, .int .i64 v2, .int .i64 (jk + 1)]) (by simp [results, Tryd.results63, go_sem, *, lt2, lt3, lt4, lt5, lt6]) rfl ⟨v1, v2, (jk + 1), by omega, by omega, by omega, by omega, by omega, by omega, rfl, (by repeat (first | (with_reducible assumption) | (with_reducible refine only_drew ?_) | (with_reducible refine only_drewN ?_ _) | (with_reducible refine only_alloc ?_ _) | (with_reducible refine only_setCell ?_ ?_ _) | (with_reducible exact only_refl _ _) | omega | (simp <;> omega))), Rd.mono (K := K + 1 + 1 + 1 + 1) (by repeat (first | (with_reducible assumption) | (with_reducible refine Rd.alloc ?_ _) | (with_reducible refine Rd.setCell ?_ ?_ _) | (with_reducible refine Rd.drew ?_) | omega | (simp <;> omega))) (by omega)⟩
  · go_wp2_with fail
    (with_reducible refine (pick_any R (K + 1 + 1 + 1 + 1) _ _ (by repeat (first | (with_reducible assumption) | (with_reducible refine Rd.alloc ?_ _) | (with_reducible refine Rd.setCell ?_ ?_ _) | (with_reducible refine Rd.drew ?_) | omega | (simp <;> omega))) (by omega) (by omega)).mono ?_)
    rintro e w6 ⟨v6, v6l, v6h, rfl, m6⟩
    have r6 := m6.rd
    obtain ⟨mc6, mf6⟩ := mcell m6
    have ms6 := m6.2.1
    have G6 : w.grownBy w6 (some R) := only_trans (by repeat (first | (with_reducible assumption) | (with_reducible refine only_drew ?_) | (with_reducible refine only_drewN ?_ _) | (with_reducible refine only_alloc ?_ _) | (with_reducible refine only_setCell ?_ ?_ _) | (with_reducible exact only_refl _ _) | omega | (simp <;> omega))) m6.1 (fun g h => .inl h.symm)
    (try simp [] at ms6)
    clear m6
    have h6 : v6 = 0 ∨ v6 = 1 := by omega
    rcases h6 with rfl | rfl
    · go_wp2
      refine bodyPost_ret (v := .agg #[.int .i64 v1, .int .i64 v2, .int .i64 (-2)]) (by simp [results, Tryd.results63, go_sem, *, lt2, lt3, lt4, lt5, lt6]) rfl ⟨v1, v2, (-2), by omega, by omega, by omega, by omega, by omega, by omega, rfl, (by repeat (first | (with_reducible assumption) | (with_reducible refine only_drew ?_) | (with_reducible refine only_drewN ?_ _) | (with_reducible refine only_alloc ?_ _) | (with_reducible refine only_setCell ?_ ?_ _) | (with_reducible exact only_refl _ _) | omega | (simp <;> omega))), Rd.mono (K := K + 1 + 1 + 1 + 1 + 1) (by repeat (first | (with_reducible assumption) | (with_reducible refine Rd.alloc ?_ _) | (with_reducible refine Rd.setCell ?_ ?_ _) | (with_reducible refine Rd.drew ?_) | omega | (simp <;> omega))) (by omega)⟩
    · go_wp2
      refine bodyPost_ret (v := .agg #[.int .i64 v1, .int .i64 v2, .int .i64 30]) (by simp [results, Tryd.results63, go_sem, *, lt2, lt3, lt4, lt5, lt6]) rfl ⟨v1, v2, 30, by omega, by omega, by omega, by omega, by omega, by omega, rfl, (by repeat (first | (with_reducible assumption) | (with_reducible refine only_drew ?_) | (with_reducible refine only_drewN ?_ _) | (with_reducible refine only_alloc ?_ _) | (with_reducible refine only_setCell ?_ ?_ _) | (with_reducible exact only_refl _ _) | omega | (simp <;> omega))), Rd.mono (K := K + 1 + 1 + 1 + 1 + 1) (by repeat (first | (with_reducible assumption) | (with_reducible refine Rd.alloc ?_ _) | (with_reducible refine Rd.setCell ?_ ?_ _) | (with_reducible refine Rd.drew ?_) | omega | (simp <;> omega))) (by omega)⟩
  · refine bodyPost_ret (v := .agg #[.int .i64 9, .int .i64 v2, .int .i64 jk]) (by simp [results, Tryd.results63, go_sem, *, lt2, lt3, lt4, lt5, lt6]) rfl ⟨9, v2, jk, by omega, by omega, by omega, by omega, by omega, by omega, rfl, (by repeat (first | (with_reducible assumption) | (with_reducible refine only_drew ?_) | (with_reducible refine only_drewN ?_ _) | (with_reducible refine only_alloc ?_ _) | (with_reducible refine only_setCell ?_ ?_ _) | (with_reducible exact only_refl _ _) | omega | (simp <;> omega))), Rd.mono (K := K + 1 + 1 + 1 + 1) (by repeat (first | (with_reducible assumption) | (with_reducible refine Rd.alloc ?_ _) | (with_reducible refine Rd.setCell ?_ ?_ _) | (with_reducible refine Rd.drew ?_) | omega | (simp <;> omega))) (by omega)⟩
  · refine bodyPost_ret (v := .agg #[.int .i64 v1, .int .i64 v2, .int .i64 jk]) (by simp [results, Tryd.results63, go_sem, *, lt2, lt3, lt4, lt5, lt6]) rfl ⟨v1, v2, jk, by omega, by omega, by omega, by omega, by omega, by omega, rfl, (by repeat (first | (with_reducible assumption) | (with_reducible refine only_drew ?_) | (with_reducible refine only_drewN ?_ _) | (with_reducible refine only_alloc ?_ _) | (with_reducible refine only_setCell ?_ ?_ _) | (with_reducible exact only_refl _ _) | omega | (simp <;> omega))), Rd.mono (K := K + 1 + 1 + 1 + 1) (by repeat (first | (with_reducible assumption) | (with_reducible refine Rd.alloc ?_ _) | (with_reducible refine Rd.setCell ?_ ?_ _) | (with_reducible refine Rd.drew ?_) | omega | (simp <;> omega))) (by omega)⟩
end Go.Proofs.YtpollgibgphipaaDoor.DrawTerm
