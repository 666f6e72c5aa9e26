/-
  The draw of two neighboring levels.
-/
import Derived.Test.YtpollgibgphipaaDoorDrawTerm
import Derived.RegionTactic
namespace Go.Proofs.YtpollgibgphipaaDoor.DrawNear
open Go.RowKit Go.Proofs.YtpollgibgphipaaDoor.Spin Go.Proofs.YtpollgibgphipaaDoor.Row Go.Proofs.YtpollgibgphipaaDoor.Coupled Go.Proofs.YtpollgibgphipaaDoor.Rd Go.Proofs.YtpollgibgphipaaDoor.DrawTerm
set_option linter.unusedVariables false
set_option linter.unusedSimpArgs false

/-- what a block of three cells gives the walk -/
theorem blk3 {w : World} {b : Nat} {x y z : Value} {t : TypeId} (h : w.heap[b]? = some (.cells #[x, y, z] t (0, 0))) :
    w.cell? ⟨b, 0, none⟩ = some x ∧ w.cell? ⟨b, 1, none⟩ = some y ∧ w.cell? ⟨b, 2, none⟩ = some z ∧ w.frozen? ⟨b, 0, none⟩ = false ∧ w.frozen? ⟨b, 1, none⟩ = false ∧ w.frozen? ⟨b, 2, none⟩ = false := by
  refine ⟨?_, ?_, ?_, ?_, ?_, ?_⟩ <;> simp [World.cell?, World.frozen?, h]

theorem two_new (w : World) (o1 o2 : Obj) : ((w.alloc o1).alloc o2).heap[w.heap.size]? = some o1 ∧ ((w.alloc o1).alloc o2).heap[w.heap.size + 1]? = some o2 := by
  refine ⟨(Below.heap_alloc _ _ _ (by simp)).trans (heap_alloc_new w _), ?_⟩
  have h := heap_alloc_new (w.alloc o1) o2
  simpa using h

def DrawnLevels (R : Nat) (K d : Int) (w : World) (e : Ending) (w' : World) : Prop :=
  ∃ s l j s' l' j' : Int, (0 ≤ s ∧ s ≤ 3 ∧ 0 ≤ l ∧ l ≤ 2 ∧ 0 ≤ j ∧ j ≤ 31) ∧ (0 ≤ s' ∧ s' ≤ 9 ∧ 0 ≤ l' ∧ l' ≤ 4 ∧ -2 ≤ j' ∧ j' ≤ 31) ∧ e = .returned (.tuple #[.agg #[.int .i64 s, .int .i64 l, .int .i64 j], .agg #[.int .i64 s', .int .i64 l', .int .i64 j']]) ∧ Drawn R K d w w'

set_option maxRecDepth 100000 in
set_option maxHeartbeats 4000000 in
theorem l92Near (R : Nat) (K : Int) (w : World) (hr : Rd w R K) (hK : K ≤ 900000) :
    Calls Tryd.prog 43 #[.pointer (some ⟨R, 0, none⟩)] w (DrawnLevels R K 20 w) := by
  have hR := hr.lt
  have n0 : w.heap.size ≠ R := by omega
  have n1 : w.heap.size + 1 ≠ R := by omega
  have N0 := Lib.hid n0
  have N1 := Lib.hid n1
  clear n0 n1
  go_enter Tryd.func43, Tryd.ntmps43
  go_wp2_with fail
  (with_reducible refine (pick_any R (K) _ _ (by repeat (first | (with_reducible assumption) | (with_reducible refine Rd.alloc ?_ _) | (with_reducible refine Rd.setCell ?_ ?_ _) | (with_reducible refine Rd.drew ?_) | omega | (simp <;> omega))) (by omega) (by omega)).mono ?_)
  rintro e w1 ⟨v1, v1l, v1h, rfl, m1⟩
  have r1 := m1.rd
  have HB1 := Lib.hid (fun (i : Nat) (h : i ≠ R) => m1.block h)
  have ms1 := m1.2.1
  have G1 : w.grownBy w1 (some R) := only_trans (by repeat (first | (with_reducible assumption) | (with_reducible refine only_drew ?_) | (with_reducible refine only_drewN ?_ _) | (with_reducible refine only_alloc ?_ _) | (with_reducible refine only_setCell ?_ ?_ _) | (with_reducible exact only_refl _ _) | omega | (simp <;> omega))) m1.1 (fun g h => .inl h.symm)
  (try simp [] at ms1)
  clear m1
  go_wp2_with fail
  (with_reducible refine (pick_any R (K + 1) _ _ (by repeat (first | (with_reducible assumption) | (with_reducible refine Rd.alloc ?_ _) | (with_reducible refine Rd.setCell ?_ ?_ _) | (with_reducible refine Rd.drew ?_) | omega | (simp <;> omega))) (by omega) (by omega)).mono ?_)
  rintro e w2 ⟨v2, v2l, v2h, rfl, m2⟩
  have r2 := m2.rd
  have HB2 := Lib.hid (fun (i : Nat) (h : i ≠ R) => m2.block h)
  have ms2 := m2.2.1
  have G2 : w.grownBy w2 (some R) := only_trans (by repeat (first | (with_reducible assumption) | (with_reducible refine only_drew ?_) | (with_reducible refine only_drewN ?_ _) | (with_reducible refine only_alloc ?_ _) | (with_reducible refine only_setCell ?_ ?_ _) | (with_reducible exact only_refl _ _) | omega | (simp <;> omega))) m2.1 (fun g h => .inl h.symm)
  (try simp [ms1] at ms2)
  clear m2
  have A2 : w2.heap[w.heap.size]? = some (.cells #[.int .i64 0, .int .i64 0, .int .i64 0] 26 (0, 0)) := (HB2.out _ N0.out).trans ((HB1.out _ N0.out).trans (two_new _ _ _).1)
  have C2 : w2.heap[w.heap.size + 1]? = some (.cells #[.int .i64 0, .int .i64 0, .int .i64 0] 26 (0, 0)) := (HB2.out _ N1.out).trans ((HB1.out _ N1.out).trans (two_new _ _ _).2)
  have HA2 := Lib.hid A2
  have HC2 := Lib.hid C2
  clear A2 C2 HB1 HB2
  go_upto_region 3 with fail
  go_cut [6] (fun s6 wx => ∃ n : Int, 0 ≤ n ∧ n ≤ 2 ∧ s6 = .int .i64 n ∧ Rd wx R (K + 1 + 1 + 1) ∧ wx.heap.size = w.heap.size + 1 + 1 ∧ w.grownBy wx (some R) ∧ Hid (wx.heap[w.heap.size]? = some (.cells #[.int .i64 0, .int .i64 0, .int .i64 0] 26 (0, 0))) ∧ Hid (wx.heap[w.heap.size + 1]? = some (.cells #[.int .i64 0, .int .i64 0, .int .i64 0] 26 (0, 0))))
  case first =>
    go_wp2_with fail
    (with_reducible refine (pick_any R (K + 1 + 1) _ _ (by repeat (first | (with_reducible assumption) | (with_reducible refine Rd.alloc ?_ _) | (with_reducible refine Rd.setCell ?_ ?_ _) | (with_reducible refine Rd.drew ?_) | omega | (simp <;> omega))) (by omega) (by omega)).mono ?_)
    rintro e w3 ⟨v3, v3l, v3h, rfl, m3⟩
    have r3 := m3.rd
    have HB3 := Lib.hid (fun (i : Nat) (h : i ≠ R) => m3.block h)
    have ms3 := m3.2.1
    have G3 : w.grownBy w3 (some R) := only_trans (by repeat (first | (with_reducible assumption) | (with_reducible refine only_drew ?_) | (with_reducible refine only_drewN ?_ _) | (with_reducible refine only_alloc ?_ _) | (with_reducible refine only_setCell ?_ ?_ _) | (with_reducible exact only_refl _ _) | omega | (simp <;> omega))) m3.1 (fun g h => .inl h.symm)
    (try simp [ms1, ms2] at ms3)
    clear m3
    have HA3 := Lib.hid ((HB3.out _ N0.out).trans HA2.out)
    have HC3 := Lib.hid ((HB3.out _ N1.out).trans HC2.out)
    clear HB3 HA2 HC2
    go_wp2_with fail
    all_goals (go_meet; exact ⟨_, by omega, by omega, rfl, r3, ms3, G3, HA3, HC3⟩)
  case rest =>
    obtain ⟨n, nl, nh, rfl, r3, ms3, G3, HA3, HC3⟩ := hcut
    obtain ⟨w3, rfl⟩ : ∃ x : World, x = wc := ⟨_, rfl⟩
    clear HA2 HC2 ms2 G2 r2 G1 r1 ms1
    obtain ⟨jp, jb⟩ := js_pos v1 v2 (by omega) (by omega) (by omega) (by omega)
    obtain ⟨ip, ib⟩ := js_pos v1 n (by omega) (by omega) (by omega) (by omega)
    have HJB := Lib.hid jb
    have HIB := Lib.hid ib
    clear jb ib
    go_wp2_with fail
    (with_reducible refine (sLevelsOf _ _ _).mono ?_)
    rintro e w4 ⟨u4, rfl, O4, b4⟩
    have r4 : Rd w4 R (K + 1 + 1 + 1) := r3.below (b4.mono (by omega))
    have G4 := only_below G3 b4
    have ms4 := b4.size
    have HA4 := Lib.hid ((b4.block _ (by omega)).trans HA3.out)
    have HC4 := Lib.hid ((b4.block _ (by omega)).trans HC3.out)
    clear b4 HA3 HC3 r3 G3
    go_wp2_with fail
    (with_reducible refine (sLevelsOf _ _ _).mono ?_)
    rintro e w5 ⟨u5, rfl, O5, b5⟩
    have r5 : Rd w5 R (K + 1 + 1 + 1) := r4.below (b5.mono (by omega))
    have G5 := only_below G4 b5
    have ms5 := b5.size
    have HA5 := Lib.hid ((b5.block _ (by omega)).trans HA4.out)
    have HC5 := Lib.hid ((b5.block _ (by omega)).trans HC4.out)
    have O4' := own_below O4 b5 (Nat.le_refl _)
    clear b5 HA4 HC4 r4 G4 O4
    generalize levelJs v1 v2 = js at *
    generalize levelJs v1 n = is at *
    obtain ⟨g, c, rfl, hg1, hg2, hnc, hcm, hcell⟩ := own_level O4' jp
    obtain ⟨h, d, rfl, hh1, hh2, hnd, hdm, hdell⟩ := own_level O5 ip
    have ng : g ≠ R := by omega
    have nh' : h ≠ R := by omega
    have NG := Lib.hid ng
    have NH := Lib.hid nh'
    have HC := Lib.hid hcell
    have HD := Lib.hid hdell
    clear O4' O5 ng nh' hcell hdell
    obtain ⟨jn, hjn⟩ : ∃ x, x = js.length := ⟨_, rfl⟩
    obtain ⟨im, him⟩ : ∃ x, x = is.length := ⟨_, rfl⟩
    have HJN := Lib.hid hjn
    have HIM := Lib.hid him
    rw [← hjn] at jp hnc ⊢
    rw [← him] at ip hnd ⊢
    clear hjn him
    go_wp2_with fail
    (with_reducible refine (pick_any R (K + 1 + 1 + 1) _ _ (by repeat (first | (with_reducible assumption) | (with_reducible refine Rd.alloc ?_ _) | (with_reducible refine Rd.setCell ?_ ?_ _) | (with_reducible refine Rd.drew ?_) | omega | (simp <;> omega))) (by omega) (by omega)).mono ?_)
    rintro e w6 ⟨v6, v6l, v6h, rfl, m6⟩
    have r6 := m6.rd
    have HB6 := Lib.hid (fun (i : Nat) (h : i ≠ R) => m6.block h)
    have ms6 := m6.2.1
    have G6 : w.grownBy w6 (some R) := only_trans (by repeat (first | (with_reducible assumption) | (with_reducible refine only_drew ?_) | (with_reducible refine only_drewN ?_ _) | (with_reducible refine only_alloc ?_ _) | (with_reducible refine only_setCell ?_ ?_ _) | (with_reducible exact only_refl _ _) | omega | (simp <;> omega))) m6.1 (fun g h => .inl h.symm)
    (try simp [] at ms6)
    clear m6
    obtain ⟨k, rfl⟩ := Int.eq_ofNat_of_zero_le v6l
    have hk : k < js.length := by have := HJN.out; omega
    obtain ⟨x0', x1', x2'⟩ := HC.out k hk
    have x0 := (World.cell?_of_block (a := ⟨g, k * 3, none⟩) (HB6.out g NG.out)).trans x0'
    have x1 := (World.cell?_of_block (a := ⟨g, k * 3 + 1, none⟩) (HB6.out g NG.out)).trans x1'
    have x2 := (World.cell?_of_block (a := ⟨g, k * 3 + 2, none⟩) (HB6.out g NG.out)).trans x2'
    have HA6 := Lib.hid ((HB6.out _ N0.out).trans HA5.out)
    have HC6 := Lib.hid ((HB6.out _ N1.out).trans HC5.out)
    have hj := HJB.out _ (List.getElem_mem hk)
    generalize js[k] = jk at *
    clear x0' x1' x2' HC HJB HA5 HC5 hk
    go_wp2_with fail
    (with_reducible refine (pick_any R (K + 1 + 1 + 1 + 1) _ _ (by repeat (first | (with_reducible assumption) | (with_reducible refine Rd.alloc ?_ _) | (with_reducible refine Rd.setCell ?_ ?_ _) | (with_reducible refine Rd.drew ?_) | omega | (simp <;> omega))) (by omega) (by omega)).mono ?_)
    rintro e w7 ⟨v7, v7l, v7h, rfl, m7⟩
    have r7 := m7.rd
    have HB7 := Lib.hid (fun (i : Nat) (h : i ≠ R) => m7.block h)
    have ms7 := m7.2.1
    have G7 : w.grownBy w7 (some R) := only_trans (by repeat (first | (with_reducible assumption) | (with_reducible refine only_drew ?_) | (with_reducible refine only_drewN ?_ _) | (with_reducible refine only_alloc ?_ _) | (with_reducible refine only_setCell ?_ ?_ _) | (with_reducible exact only_refl _ _) | omega | (simp <;> omega))) m7.1 (fun g h => .inl h.symm)
    (try simp [] at ms7)
    clear m7
    obtain ⟨k', rfl⟩ := Int.eq_ofNat_of_zero_le v7l
    have hk' : k' < is.length := by have := HIM.out; omega
    obtain ⟨y0', y1', y2'⟩ := HD.out k' hk'
    have q6 : ∀ o, (w6.alloc (.cells #[.int .i64 v1, .int .i64 v2, .int .i64 jk] 26)).cell? ⟨h, o, none⟩ = w6.cell? ⟨h, o, none⟩ := fun o => World.cell?_alloc_lt _ _ _ (by show h < w6.heap.size; omega)
    have y0 := (World.cell?_of_block (a := ⟨h, k' * 3, none⟩) (HB7.out h NH.out)).trans ((q6 _).trans ((World.cell?_of_block (a := ⟨h, k' * 3, none⟩) (HB6.out h NH.out)).trans y0'))
    have y1 := (World.cell?_of_block (a := ⟨h, k' * 3 + 1, none⟩) (HB7.out h NH.out)).trans ((q6 _).trans ((World.cell?_of_block (a := ⟨h, k' * 3 + 1, none⟩) (HB6.out h NH.out)).trans y1'))
    have y2 := (World.cell?_of_block (a := ⟨h, k' * 3 + 2, none⟩) (HB7.out h NH.out)).trans ((q6 _).trans ((World.cell?_of_block (a := ⟨h, k' * 3 + 2, none⟩) (HB6.out h NH.out)).trans y2'))
    have nx : w6.heap.size ≠ R := by have := r6.lt; omega
    have HX7 := Lib.hid ((HB7.out _ nx).trans (heap_alloc_new w6 _))
    have HA7 := Lib.hid ((HB7.out _ N0.out).trans ((Below.heap_alloc _ _ _ (by omega)).trans HA6.out))
    have HC7 := Lib.hid ((HB7.out _ N1.out).trans ((Below.heap_alloc _ _ _ (by omega)).trans HC6.out))
    have hi := HIB.out _ (List.getElem_mem hk')
    generalize is[k'] = ik at *
    clear x0 x1 x2 y0' y1' y2' q6 HB6 HA6 HC6 HIB HD hk' nx
    go_wp2_with fail
    (with_reducible refine (pick_any R (K + 1 + 1 + 1 + 1 + 1) _ _ (by repeat (first | (with_reducible assumption) | (with_reducible refine Rd.alloc ?_ _) | (with_reducible refine Rd.setCell ?_ ?_ _) | (with_reducible refine Rd.drew ?_) | omega | (simp <;> omega))) (by omega) (by omega)).mono ?_)
    rintro e w8 ⟨v8, v8l, v8h, rfl, m8⟩
    have r8 := m8.rd
    have HB8 := Lib.hid (fun (i : Nat) (h : i ≠ R) => m8.block h)
    have ms8 := m8.2.1
    have G8 : w.grownBy w8 (some R) := only_trans (by repeat (first | (with_reducible assumption) | (with_reducible refine only_drew ?_) | (with_reducible refine only_drewN ?_ _) | (with_reducible refine only_alloc ?_ _) | (with_reducible refine only_setCell ?_ ?_ _) | (with_reducible exact only_refl _ _) | omega | (simp <;> omega))) m8.1 (fun g h => .inl h.symm)
    (try simp [] at ms8)
    clear m8
    have ny : w7.heap.size ≠ R := by have := r7.lt; omega
    have nx : w6.heap.size ≠ R := by have := r6.lt; omega
    have HY8 := Lib.hid ((HB8.out _ ny).trans (heap_alloc_new w7 _))
    have HX8 := Lib.hid ((HB8.out _ nx).trans ((Below.heap_alloc _ _ _ (by omega)).trans HX7.out))
    have HA8 := Lib.hid ((HB8.out _ N0.out).trans ((Below.heap_alloc _ _ _ (by omega)).trans HA7.out))
    have HC8 := Lib.hid ((HB8.out _ N1.out).trans ((Below.heap_alloc _ _ _ (by omega)).trans HC7.out))
    clear HB7 HB8 HX7 HA7 HC7 y0 y1 y2 nx ny
    have e6 : w6.heap.size = w5.heap.size := ms6
    have e7 : w7.heap.size = w5.heap.size + 1 := by omega
    rw [e6] at HX8
    rw [e7] at HY8
    have e8 : w8.heap.size = w5.heap.size + 1 + 1 := by omega
    clear ms6 ms7 ms8 e6 e7 r6 r7 G6 G7
    have z1 : ¬ w.heap.size = w5.heap.size := by omega
    have z2 : ¬ w.heap.size = w5.heap.size + 1 := by omega
    have z3 : ¬ w.heap.size + 1 = w5.heap.size := by omega
    have z4 : ¬ w.heap.size + 1 = w5.heap.size + 1 := by omega
    have nX : w5.heap.size ≠ R := by have := r5.lt; omega
    have nY : w5.heap.size + 1 ≠ R := by have := r5.lt; omega
    have NX := Lib.hid nX
    have NY := Lib.hid nY
    clear nX nY
    obtain ⟨a0, a1, a2, fa0, fa1, fa2⟩ := blk3 HA8.out
    obtain ⟨c0, c1, c2, fc0, fc1, fc2⟩ := blk3 HC8.out
    obtain ⟨x0, x1, x2, fx0, fx1, fx2⟩ := blk3 HX8.out
    obtain ⟨y0, y1, y2, fy0, fy1, fy2⟩ := blk3 HY8.out
    go_wp2_with fail
    · clear a0 a1 a2 fa0 fa1 fa2 c0 c1 c2 fc0 fc1 fc2 x0 x1 x2 fx0 fx1 fx2 y0 y1 y2 fy0 fy1 fy2
      (with_reducible refine (l92Level R (K + 1 + 1 + 1 + 1 + 1 + 1) _ r8 (by omega)).mono ?_)
      rintro e w9 ⟨s', l', j', q1, q2, q3, q4, q5, q6, rfl, hg9, r9⟩
      have G9 := only_trans G8 hg9 (fun g h => .inl h.symm)
      have HA9 := Lib.hid ((hg9.block _ (by omega) (fun e => N0.out (by injection e))).trans HA8.out)
      have HC9 := Lib.hid ((hg9.block _ (by omega) (fun e => N1.out (by injection e))).trans HC8.out)
      have HX9 := Lib.hid ((hg9.block _ (by omega) (fun e => NX.out (by injection e))).trans HX8.out)
      have HY9 := Lib.hid ((hg9.block _ (by omega) (fun e => NY.out (by injection e))).trans HY8.out)
      obtain ⟨a0, a1, a2, fa0, fa1, fa2⟩ := blk3 HA9.out
      obtain ⟨c0, c1, c2, fc0, fc1, fc2⟩ := blk3 HC9.out
      obtain ⟨x0, x1, x2, fx0, fx1, fx2⟩ := blk3 HX9.out
      obtain ⟨y0, y1, y2, fy0, fy1, fy2⟩ := blk3 HY9.out
      clear HA8 HC8 HX8 HY8 hg9 G8 r8
      go_wp2
      go_region
      go_wp2
      refine bodyPost_ret (v := .tuple #[.agg #[.int .i64 v1, .int .i64 v2, .int .i64 jk], .agg #[.int .i64 s', .int .i64 l', .int .i64 j']]) (by simp [results, Tryd.results43, go_sem, *, lt2, lt3, lt4, lt5, lt6]) rfl ⟨v1, v2, jk, s', l', j', ⟨by omega, by omega, by omega, by omega, by omega, by omega⟩, ⟨by omega, by omega, by omega, by omega, by omega, by omega⟩, rfl, (by repeat (first | (with_reducible assumption) | (with_reducible refine only_drew ?_) | (with_reducible refine only_drewN ?_ _) | (with_reducible refine only_alloc ?_ _) | (with_reducible refine only_setCell ?_ ?_ _) | (with_reducible exact only_refl _ _) | omega | (simp <;> omega))), Rd.mono (K := K + 1 + 1 + 1 + 1 + 1 + 1 + 10) (by repeat (first | (with_reducible assumption) | (with_reducible refine Rd.alloc ?_ _) | (with_reducible refine Rd.setCell ?_ ?_ _) | (with_reducible refine Rd.drew ?_) | omega | (simp <;> omega))) (by omega)⟩
    · go_region
      go_wp2
      refine bodyPost_ret (v := .tuple #[.agg #[.int .i64 v1, .int .i64 v2, .int .i64 (jk + 1)], .agg #[.int .i64 v1, .int .i64 n, .int .i64 ik]]) (by simp [results, Tryd.results43, go_sem, *, lt2, lt3, lt4, lt5, lt6]) rfl ⟨v1, v2, (jk + 1), v1, n, ik, ⟨by omega, by omega, by omega, by omega, by omega, by omega⟩, ⟨by omega, by omega, by omega, by omega, by omega, by omega⟩, rfl, (by repeat (first | (with_reducible assumption) | (with_reducible refine only_drew ?_) | (with_reducible refine only_drewN ?_ _) | (with_reducible refine only_alloc ?_ _) | (with_reducible refine only_setCell ?_ ?_ _) | (with_reducible exact only_refl _ _) | omega | (simp <;> omega))), Rd.mono (K := K + 1 + 1 + 1 + 1 + 1 + 1) (by repeat (first | (with_reducible assumption) | (with_reducible refine Rd.alloc ?_ _) | (with_reducible refine Rd.setCell ?_ ?_ _) | (with_reducible refine Rd.drew ?_) | omega | (simp <;> omega))) (by omega)⟩
    · go_region
      go_wp2
      refine bodyPost_ret (v := .tuple #[.agg #[.int .i64 v1, .int .i64 v2, .int .i64 jk], .agg #[.int .i64 v1, .int .i64 n, .int .i64 ik]]) (by simp [results, Tryd.results43, go_sem, *, lt2, lt3, lt4, lt5, lt6]) rfl ⟨v1, v2, jk, v1, n, ik, ⟨by omega, by omega, by omega, by omega, by omega, by omega⟩, ⟨by omega, by omega, by omega, by omega, by omega, by omega⟩, rfl, (by repeat (first | (with_reducible assumption) | (with_reducible refine only_drew ?_) | (with_reducible refine only_drewN ?_ _) | (with_reducible refine only_alloc ?_ _) | (with_reducible refine only_setCell ?_ ?_ _) | (with_reducible exact only_refl _ _) | omega | (simp <;> omega))), Rd.mono (K := K + 1 + 1 + 1 + 1 + 1 + 1) (by repeat (first | (with_reducible assumption) | (with_reducible refine Rd.alloc ?_ _) | (with_reducible refine Rd.setCell ?_ ?_ _) | (with_reducible refine Rd.drew ?_) | omega | (simp <;> omega))) (by omega)⟩

end Go.Proofs.YtpollgibgphipaaDoor.DrawNear
