/-
  Contracts of SpinCoupled and LevelsOf, the program's and the reference's.
-/
import Derived.Test.YtpollgibgphipaaDoorRow
namespace Go.Proofs.YtpollgibgphipaaDoor.Coupled
open Go.RowKit Go.Proofs.YtpollgibgphipaaDoor.Spin Go.Proofs.YtpollgibgphipaaDoor.Row
set_option linter.unusedVariables false
set_option linter.unusedSimpArgs false

theorem infoInt : (Tryd.prog.info? 3).map (fun i => (i.zero, i.size, i.bytes)) = some (some (.int .i64 0), 1, 8) := by kernel_rfl

/-- the angular momenta from d on, in steps of 2 -/
def upFrom (d : Int) (k : Nat) : List Int := (List.range k).map fun i : Nat => d + 2 * (i : Int)
def encI (n : Int) : Value := .int .i64 n
theorem upFrom_succ (d : Int) (k : Nat) : upFrom d (k + 1) = upFrom d k ++ [d + 2 * (k : Int)] := by simp [upFrom, List.range_succ]
theorem upFrom_cells (d : Int) (k : Nat) : (upFrom d (k + 1)).map encI = (upFrom d k).map encI ++ [.int .i64 (d + 2 * (k : Int))] := by rw [upFrom_succ]; simp [encI]

/-- how many angular momenta two ones couple to -/
def count (a b : Int) : Nat := if spinOk a && spinOk b && decide (a + b ≤ 24) then (min a b + 1).toNat else 0
def coupled (a b : Int) : List Int := upFrom (absI (a - b)) (count a b)

theorem count_no {a b : Int} (h : spinOk a = false ∨ spinOk b = false ∨ decide (a + b ≤ 24) = false) : count a b = 0 := by
  unfold count
  rcases h with h | h | h <;> simp [h]
theorem count_yes {a b : Int} (h1 : spinOk a = true) (h2 : spinOk b = true) (h3 : a + b ≤ 24) : absI (a - b) + 2 * (count a b : Int) ≤ a + b + 2 ∧ a + b + 2 ≤ absI (a - b) + 2 * (count a b : Int) ∧ 0 ≤ absI (a - b) ∧ absI (a - b) ≤ 24 ∧ count a b ≤ 25 := by
  have q1 := spinOk_true.1 h1
  have q2 := spinOk_true.1 h2
  have hc : count a b = (min a b + 1).toNat := by simp [count, h1, h2, h3]
  rw [hc]
  unfold absI
  split <;> omega


set_option maxRecDepth 100000 in
set_option maxHeartbeats 1000000 in
theorem sSpinCoupled (a b : Int) (w : World) :
    Calls Tryd.prog 78 #[.int .i64 a, .int .i64 b] w (GivesRow 3 1 (count a b) ((coupled a b).map encI) w) := by
  obtain ⟨i0, hi, hz0, hz1, hz2⟩ := info_parts infoInt
  by_cases h1 : spinOk a = true
  · by_cases h2 : spinOk b = true
    · by_cases h3 : a + b ≤ 24
      · have q1 := spinOk_true.1 h1
        have q2 := spinOk_true.1 h2
        obtain ⟨c1, c2, d0, d1, cm⟩ := count_yes h1 h2 h3
        unfold coupled
        generalize count a b = n at *
        have HI := Lib.hid hi
        have HZ0 := Lib.hid hz0
        have HZ1 := Lib.hid hz1
        have HZ2 := Lib.hid hz2
        clear hi hz0 hz1 hz2
        go_enter Tryd.func78, Tryd.ntmps78
        go_wp2_with fail
        (with_reducible refine (sSpinValid _ _).mono ?_)
        rintro e w' ⟨rfl, rfl⟩
        go_wp2_with fail
        (with_reducible refine (sSpinValid _ _).mono ?_)
        rintro e w' ⟨rfl, rfl⟩
        go_wp2_with fail
        (with_reducible refine (l1Abs _ _ (by omega) (by omega)).mono ?_)
        rintro e w' ⟨rfl, rfl⟩
        generalize absI (a - b) = d at *
        go_wp2
        clear h1 h2 h3
        go_loopw [5, 6] (fun v i wr => ∃ k : Nat, k ≤ n ∧ i = .int .i64 (d + 2 * (k : Int)) ∧ wr.ownsRow w.heap.size 3 1 v k ((upFrom d k).map encI) ∧ Below w.heap.size w wr) (fun _ i _ => (a + b + 2 - intOf i).toNat)
        case atStart => exact ⟨0, by omega, by simp, World.ownsRow_lit w #[] 0 (Nat.le_refl _) (by decide) rfl, (by repeat (first | (with_reducible refine Below.drew ?_) | (with_reducible refine below_drewN ?_ _) | (with_reducible refine Below.alloc ?_ ?_ _) | (with_reducible refine Below.setCell ?_ ?_ _) | (with_reducible assumption) | (with_reducible exact Below.refl _ _) | omega | (simp <;> omega)))⟩
        case round =>
          obtain ⟨k, hk, rfl, hown, hB⟩ := hrel
          by_cases hlt : k < n
          · go_wp2_with (at_builtin; refine wpList_append_own _ rfl _ _ 64 rfl w.heap.size 3 i0 (.int .i64 0) 1 8 Tryd.underlying64 HI.out HZ0.out HZ1.out HZ2.out rfl (by decide) _ _ _ rfl (hown.alloc _) ⟨wr.heap.size, 0, none⟩ 1 1 [.int .i64 (d + 2 * (k : Int))] rfl rfl (cell_one_new _ _ _) (by simp [Value.oneCell']) (by unfold maxLen; omega) (by omega) (by have := hB.size; simp; omega) ?_)
            intro v' w1 hown' hgrow _
            have b1 := own_step hB (Nat.le_refl _) hgrow (fun k hk => (hown.lt k hk).1)
            rw [← upFrom_cells] at hown'
            clear hgrow hown hB
            go_wp2
            go_roundw
            case rel => exact ⟨k + 1, by omega, by go_num, hown', b1⟩
            case measure => simp [intOf]; omega
          · obtain rfl : k = n := by omega
            go_wp2
            go_ret
            exact ⟨_, rfl, hown, hB⟩
      · have h3' : decide (a + b ≤ 24) = false := by simpa using h3
        have hc := count_no (a := a) (b := b) (.inr (.inr h3'))
        unfold coupled
        rw [hc]
        have q1 := spinOk_true.1 h1
        have q2 := spinOk_true.1 h2
        clear hc h3' hi hz0 hz1 hz2
        go_enter Tryd.func78, Tryd.ntmps78
        go_wp2_with fail
        (with_reducible refine (sSpinValid _ _).mono ?_)
        rintro e w' ⟨rfl, rfl⟩
        go_wp2_with fail
        (with_reducible refine (sSpinValid _ _).mono ?_)
        rintro e w' ⟨rfl, rfl⟩
        go_wp2
        go_ret
        exact ⟨_, rfl, World.ownsRow_lit w #[] 0 (Nat.le_refl _) (by decide) rfl, (by repeat (first | (with_reducible refine Below.drew ?_) | (with_reducible refine below_drewN ?_ _) | (with_reducible refine Below.alloc ?_ ?_ _) | (with_reducible refine Below.setCell ?_ ?_ _) | (with_reducible assumption) | (with_reducible exact Below.refl _ _) | omega | (simp <;> omega)))⟩
    · have h2' : spinOk b = false := by simpa using h2
      have hc := count_no (a := a) (b := b) (.inr (.inl h2'))
      unfold coupled
      rw [hc]
      clear hc h2 hi hz0 hz1 hz2
      go_enter Tryd.func78, Tryd.ntmps78
      go_wp2_with fail
      (with_reducible refine (sSpinValid _ _).mono ?_)
      rintro e w' ⟨rfl, rfl⟩
      go_wp2_with fail
      (with_reducible refine (sSpinValid _ _).mono ?_)
      rintro e w' ⟨rfl, rfl⟩
      go_wp2
      go_ret
      exact ⟨_, rfl, World.ownsRow_lit w #[] 0 (Nat.le_refl _) (by decide) rfl, (by repeat (first | (with_reducible refine Below.drew ?_) | (with_reducible refine below_drewN ?_ _) | (with_reducible refine Below.alloc ?_ ?_ _) | (with_reducible refine Below.setCell ?_ ?_ _) | (with_reducible assumption) | (with_reducible exact Below.refl _ _) | omega | (simp <;> omega)))⟩
  · have h1' : spinOk a = false := by simpa using h1
    have hc := count_no (a := a) (b := b) (.inl h1')
    unfold coupled
    rw [hc]
    clear hc h1 hi hz0 hz1 hz2
    go_enter Tryd.func78, Tryd.ntmps78
    go_wp2_with fail
    (with_reducible refine (sSpinValid _ _).mono ?_)
    rintro e w' ⟨rfl, rfl⟩
    go_wp2
    go_ret
    exact ⟨_, rfl, World.ownsRow_lit w #[] 0 (Nat.le_refl _) (by decide) rfl, (by repeat (first | (with_reducible refine Below.drew ?_) | (with_reducible refine below_drewN ?_ _) | (with_reducible refine Below.alloc ?_ ?_ _) | (with_reducible refine Below.setCell ?_ ?_ _) | (with_reducible assumption) | (with_reducible exact Below.refl _ _) | omega | (simp <;> omega)))⟩

theorem infoLevel : (Tryd.prog.info? 26).map (fun i => (i.zero, i.size, i.bytes)) = some (some (.agg #[.int .i64 0, .int .i64 0, .int .i64 0]), 3, 24) := by kernel_rfl

def encL (s l : Int) (j : Int) : List Value := [.int .i64 s, .int .i64 l, .int .i64 j]
theorem encL_len (s l : Int) (j : Int) : (encL s l j).length = 3 := rfl
theorem upFrom_len (d : Int) (k : Nat) : (upFrom d k).length = k := by simp [upFrom]
theorem coupled_len (a b : Int) : (coupled a b).length = count a b := upFrom_len _ _
/-- the angular momenta of a term's levels -/
def levelJs (s l : Int) : List Int := if termOk s l then coupled (2 * l) s else []
theorem levelJs_yes {s l : Int} (h : termOk s l = true) : levelJs s l = coupled (2 * l) s := by simp [levelJs, h]
theorem levelJs_no {s l : Int} (h : termOk s l = false) : levelJs s l = [] := by simp [levelJs, h]
theorem count_le {s l : Int} (h : termOk s l = true) : count (2 * l) s ≤ 25 := by
  have q := termOk_true.1 h
  exact (count_yes (a := 2 * l) (b := s) (spinOk_true.2 (by omega)) (spinOk_true.2 (by omega)) (by omega)).2.2.2.2


set_option maxRecDepth 100000 in
set_option maxHeartbeats 1000000 in
theorem sLevelsOf (s l : Int) (w : World) :
    Calls Tryd.prog 62 #[.agg #[.int .i64 s, .int .i64 l]] w (GivesRow 26 3 (levelJs s l).length ((levelJs s l).flatMap (encL s l)) w) := by
  obtain ⟨i0, hi, hz0, hz1, hz2⟩ := info_parts infoLevel
  have HI := Lib.hid hi
  have HZ0 := Lib.hid hz0
  have HZ1 := Lib.hid hz1
  have HZ2 := Lib.hid hz2
  clear hi hz0 hz1 hz2
  have own0 : ((w.alloc (.cells #[.int .i64 s, .int .i64 l] 24)).alloc (.cells #[] 26)).ownsRow w.heap.size 26 3 (.slice (some ⟨w.heap.size + 1, 0, none⟩) 0 0) 0 [] := by
    have h := World.ownsRow_lit (base := w.heap.size) (e := 26) (size := 3) (w.alloc (.cells #[.int .i64 s, .int .i64 l] 24)) #[] 0 (by simp) (by decide) rfl
    simpa using h
  have HO := Lib.hid own0
  clear own0
  by_cases h1 : termOk s l = true
  · rw [levelJs_yes h1, coupled_len]
    have q := termOk_true.1 h1
    have hcm := count_le h1
    have HN := Lib.hid (coupled_len (2 * l) s)
    go_enter Tryd.func62, Tryd.ntmps62
    go_wp2_with fail
    (with_reducible refine (sTermValid _ _ _).mono ?_)
    rintro e w1 ⟨rfl, b1⟩
    have O1 := own_below HO.out b1 (Nat.le_refl _)
    have hz1 := b1.size
    obtain ⟨hc1, hf1⟩ := bcell b1
    have B1 : Below w.heap.size w w1 := Below.trans (by repeat (first | (with_reducible refine Below.drew ?_) | (with_reducible refine below_drewN ?_ _) | (with_reducible refine Below.alloc ?_ ?_ _) | (with_reducible refine Below.setCell ?_ ?_ _) | (with_reducible assumption) | (with_reducible exact Below.refl _ _) | omega | (simp <;> omega))) (b1.mono (by simp; omega))
    simp at hz1
    have hy1 : w.heap.size < w1.heap.size := by omega
    clear b1 HO
    go_wp2_with fail
    (with_reducible refine (sSpinCoupled _ _ _).mono ?_)
    rintro e w2 ⟨v, rfl, hown2, b2⟩
    have O2 := own_below O1 b2 (Nat.le_refl _)
    have B2 := B1.trans (b2.mono B1.size)
    obtain ⟨hc2, hf2⟩ := bcell b2
    have t0 : w2.cell? ⟨w.heap.size, 0, none⟩ = some (.int .i64 s) := (hc2 _ _ hy1).trans ((hc1 _ _ (by simp; omega)).trans (by simp))
    have t1 : w2.cell? ⟨w.heap.size, 1, none⟩ = some (.int .i64 l) := (hc2 _ _ hy1).trans ((hc1 _ _ (by simp; omega)).trans (by simp))
    have hlt2 : w.heap.size + 1 < w2.heap.size := by have := b2.size; omega
    have hvb := hown2.lt
    have hS := Sees.of_own hown2
    generalize coupled (2 * l) s = js at *
    generalize count (2 * l) s = n at *
    clear b2 hc2 hf2 hc1 hf1 B1 hown2 h1 O1
    rcases hS.2 with ⟨rfl, a, c, rfl⟩ | ⟨b, o, c, rfl, hnc, hcm', hb, hcell⟩
    · have HJ := Lib.hid (List.eq_nil_of_length_eq_zero HN.out)
      clear hvb hS
      have HO2 := Lib.hid O2
      clear O2
      go_wp2
      go_loopw [3, 5] (fun v i wr => v = .slice (some ⟨w.heap.size + 1, 0, none⟩) 0 0 ∧ i = .int .i64 0 ∧ wr = w2) (fun _ _ _ => 0)
      case atStart => exact ⟨rfl, rfl, rfl⟩
      case round =>
        obtain ⟨rfl, rfl, rfl⟩ := hrel
        go_wp2
        go_ret
        exact ⟨_, rfl, by rw [HJ.out]; exact HO2.out, B2⟩
    · have hbne : some b ≠ some (w.heap.size + 1) := by
        have := (hvb b rfl).1
        intro e
        injection e
        omega
      have HBN := Lib.hid hbne
      unfold maxLen at hcm'
      clear hvb hS hbne
      have hwne : some w.heap.size ≠ some (w.heap.size + 1) := by simp
      have HWN := Lib.hid hwne
      clear hwne
      have hlt3 : w.heap.size < w2.heap.size := by omega
      have T0 := Lib.hid t0
      have T1 := Lib.hid t1
      have TC := Lib.hid hcell
      clear t0 t1 hcell
      have HO2 := Lib.hid O2
      clear O2
      go_wp2
      go_loopw [3, 5] (fun v i wr => ∃ k : Nat, k ≤ n ∧ i = .int .i64 k ∧ wr.ownsRow w.heap.size 26 3 v k ((js.take k).flatMap (encL s l)) ∧ w2.grownBy wr (some (w.heap.size + 1)) ∧ (∀ g, v.ownBlock = some g → some g = some (w.heap.size + 1) ∨ w2.heap.size ≤ g)) (fun _ i _ => n - (intOf i).toNat)
      case atStart => exact ⟨0, by omega, rfl, HO2.out, only_refl _ _, own_at _ _ _ _⟩
      case round =>
        obtain ⟨k, hk, rfl, hown, hG, hvo⟩ := hrel
        have hs2 := hG.size
        by_cases hlt : k < n
        · have hkl : k < js.length := by have := HN.out; omega
          have tk : w2.cell? ⟨b, o + k, none⟩ = some (.int .i64 js[k]) := by
            rw [TC.out k (by omega)]
            simp [encI, List.getElem?_map, List.getElem?_eq_getElem hkl]
          have HF := Lib.hid (flat_take (encL s l) js k hkl)
          generalize js[k] = jk at *
          have hk0 : (0 : Int) ≤ (k : Int) := Int.natCast_nonneg _
          have hk1 : (k : Int) < (n : Int) := by omega
          have KS := Lib.hid (fun (W' : World) (h : w2.grownBy W' (some (w.heap.size + 1))) => show W'.cell? ⟨w.heap.size, 0, none⟩ = some (.int .i64 s) ∧ W'.cell? ⟨w.heap.size, 1, none⟩ = some (.int .i64 l) ∧ W'.cell? ⟨b, o + k, none⟩ = some (.int .i64 jk) from
            ⟨(only_cell h hlt3 HWN.out 0).trans T0.out, (only_cell h hlt3 HWN.out 1).trans T1.out, (only_cell h hb HBN.out (o + k)).trans tk⟩)
          clear tk
          have HV := Lib.hid hvo
          clear hvo
          go_wp2_with fail
          go_region_held3 (fun w' => w'.cell? ⟨w.heap.size, 0, none⟩ = some (.int .i64 s) ∧ w'.cell? ⟨w.heap.size, 1, none⟩ = some (.int .i64 l) ∧ w'.cell? ⟨b, o + k, none⟩ = some (.int .i64 jk))
            (first | exact KS.out _ hG1 | exact KS.out _ (only_drew hG) | exact KS.out _ (only_drew (only_alloc hG _)) | exact KS.out _ (only_alloc (only_drew hG) _))
            ((refine step_append_lies _ (by rfl) _ _ _ (by rfl) w.heap.size 26 i0 _ 3 24 Tryd.underlying87 HI.out HZ0.out HZ1.out HZ2.out rfl (by omega) _ k ((js.take k).flatMap (encL s l)) (by rfl) ((hown.alloc _).drew)
                  ⟨wr.heap.size, 0, none⟩ 1 1 [.int .i64 s, .int .i64 l, .int .i64 jk] (by rfl) (by rfl) (World.news_of_block (cs := #[.int .i64 s, .int .i64 l, .int .i64 jk]) (t := 26) (fr := (0, 0)) (heap_alloc_new wr _)) (by simp [Value.oneCell'])
                  (by omega) (by unfold maxLen; omega) (by omega) (by simp; omega) (wr.heap.size + 1) (by simp) ?_; intro gg cap w3 hown1 hgrow hat hltg; have hG1 := only_step_drew hG HV.out hgrow))
          have hown3 : w3.ownsRow w.heap.size 26 3 (.slice (some ⟨gg, 0, none⟩) (k + 1) cap) (k + 1) ((js.take (k + 1)).flatMap (encL s l)) := by rw [HF.out]; exact hown1
          have HV3 := Lib.hid (only_at (n := k + 1) (c := cap) hG HV.out hat (by omega))
          clear hgrow hown hown1 hat HV
          go_wp2
          go_roundw
          case rel => exact ⟨k + 1, by omega, by go_num, hown3, hG1, HV3.out⟩
          case measure => simp [intOf]; omega
        · obtain rfl : k = n := by omega
          have HV := Lib.hid hvo
          clear hvo
          go_wp2
          go_ret
          refine ⟨_, rfl, ?_, below_only B2 hG B2.size (by rintro g ⟨⟩; omega)⟩
          have e : js.take k = js := List.take_of_length_le (by have := HN.out; omega)
          rw [e] at hown
          exact hown
  · have h1' : termOk s l = false := by simpa using h1
    rw [levelJs_no h1']
    clear h1
    go_enter Tryd.func62, Tryd.ntmps62
    go_wp2_with fail
    (with_reducible refine (sTermValid _ _ _).mono ?_)
    rintro e w1 ⟨rfl, b1⟩
    have O1 := own_below HO.out b1 (Nat.le_refl _)
    have B1 : Below w.heap.size w w1 := Below.trans (by repeat (first | (with_reducible refine Below.drew ?_) | (with_reducible refine below_drewN ?_ _) | (with_reducible refine Below.alloc ?_ ?_ _) | (with_reducible refine Below.setCell ?_ ?_ _) | (with_reducible assumption) | (with_reducible exact Below.refl _ _) | omega | (simp <;> omega))) (b1.mono (by simp; omega))
    clear b1 HO
    have HO1 := Lib.hid O1
    clear O1
    go_wp2
    go_ret
    exact ⟨_, rfl, HO1.out, B1⟩

end Go.Proofs.YtpollgibgphipaaDoor.Coupled
