/-
  The walks of the laws on allowed transitions between drawn states.
-/
import Derived.Test.YtdlioofnoibidaaAllowed
import Derived.Test.YtdlioofnoibidaaDrawState
import Derived.Test.YtdlioofnoibidaaStatesEq
import Derived.IntWalk
namespace Go.Proofs.Ytdlioofnoibidaa.AllowedLaws
open Go.RowKit Go.Proofs.Ytdlioofnoibidaa.Spin Go.Proofs.Ytdlioofnoibidaa.Row Go.Proofs.Ytdlioofnoibidaa.Rd Go.Proofs.Ytdlioofnoibidaa.Allowed Go.Proofs.Ytdlioofnoibidaa.DrawState Go.Proofs.Ytdlioofnoibidaa.Coupled Go.Proofs.Ytdlioofnoibidaa.States Go.Proofs.Ytdlioofnoibidaa.StatesEq
set_option linter.unusedVariables false
set_option linter.unusedSimpArgs false

/-- the law returns true; what was there is as it was -/
def Yes (w : World) (e : Ending) (w' : World) : Prop := e = .returned (.bool true) ∧ Below w.heap.size w w'

theorem absI_swap (a b : Int) : absI (a - b) = absI (b - a) := by unfold absI; split <;> split <;> omega
theorem near_swap (a b m : Int) : nearB a b m = nearB b a m := by
  unfold nearB
  rw [absI_swap a b]
  exact decide_eq_decide.2 ⟨fun h => ⟨h.1, h.2.symm⟩, fun h => ⟨h.1, h.2.symm⟩⟩
theorem allowed_swap (s1 l1 j1 : Int) (o1 : Bool) (s2 l2 j2 : Int) (o2 : Bool) : allowed s1 l1 j1 o1 s2 l2 j2 o2 = allowed s2 l2 j2 o2 s1 l1 j1 o1 := by
  unfold allowed
  rw [near_swap l1 l2, near_swap j1 j2, show (s1 == s2) = (s2 == s1) from by rw [Bool.eq_iff_iff, beq_iff_eq, beq_iff_eq]; exact ⟨Eq.symm, Eq.symm⟩, show (o1 != o2) = (o2 != o1) from by cases o1 <;> cases o2 <;> rfl, Bool.and_comm (levelOk s1 l1 j1)]
theorem allowed_parts {s1 l1 j1 : Int} {o1 : Bool} {s2 l2 j2 : Int} {o2 : Bool} (h : allowed s1 l1 j1 o1 s2 l2 j2 o2 = true) : levelOk s1 l1 j1 = true ∧ levelOk s2 l2 j2 = true ∧ (s1 == s2) = true ∧ o1 ≠ o2 := by
  simp [allowed] at h
  exact ⟨h.1.1, h.1.2, by simpa using h.2.1.1.2, h.2.1.1.1⟩
theorem allowed_same (s1 l1 j1 : Int) (s2 l2 j2 : Int) (o : Bool) : allowed s1 l1 j1 o s2 l2 j2 o = false := by simp [allowed]
theorem allowed_flip (s1 l1 j1 : Int) (o1 : Bool) (s2 l2 j2 : Int) (o2 : Bool) : allowed s1 l1 j1 (!o1) s2 l2 j2 (!o2) = allowed s1 l1 j1 o1 s2 l2 j2 o2 := by
  unfold allowed
  rw [show ((!o1) != (!o2)) = (o1 != o2) from by cases o1 <;> cases o2 <;> rfl]

theorem js_one {s l : Int} (h : termOk s l = true) : 1 ≤ (levelJs s l).length := by
  have q := termOk_true.1 h
  have h1 : spinOk (2 * l) = true := spinOk_true.2 (by omega)
  have h2 : spinOk s = true := spinOk_true.2 (by omega)
  rw [levelJs_yes h, coupled_len]
  have hc : count (2 * l) s = (min (2 * l) s + 1).toNat := by simp [count, h1, h2]; omega
  omega
theorem termOk_of_pos {s l : Int} (h : 1 ≤ (levelJs s l).length) : termOk s l = true := by
  cases ht : termOk s l
  · rw [levelJs_no ht] at h
    simp at h
  · rfl
theorem js_last {s l : Int} (h : termOk s l = true) : (levelJs s l)[(levelJs s l).length - 1]'(by have := js_one h; omega) = 2 * l + s := by
  have q := termOk_true.1 h
  have h1 : spinOk (2 * l) = true := spinOk_true.2 (by omega)
  have h2 : spinOk s = true := spinOk_true.2 (by omega)
  obtain ⟨c1, c2, c3, c4, c5⟩ := count_yes h1 h2 (by omega)
  have hj := js_one h
  rw [levelJs_yes h, coupled_len] at hj
  simp only [levelJs_yes h, coupled, upFrom, List.getElem_map, List.getElem_range, List.length_map, List.length_range]
  omega
theorem top_allowed {s l : Int} (odd : Bool) (h : termOk s l = true) (h' : termOk s (l + 1) = true) : allowed s l (2 * l + s) odd s (l + 1) (2 * (l + 1) + s) (!odd) = true := by
  have q := termOk_true.1 h
  have q' := termOk_true.1 h'
  have t1 : tri (2 * l) s (2 * l + s) = true := tri_true.2 (by omega)
  have t2 : tri (2 * (l + 1)) s (2 * (l + 1) + s) = true := tri_true.2 (by omega)
  have n1 : nearB l (l + 1) 1 = true := nearB_true.2 (by unfold absI; split <;> omega)
  have n2 : nearB (2 * l + s) (2 * (l + 1) + s) 2 = true := nearB_true.2 (by unfold absI; split <;> omega)
  simp [allowed, levelOk, h, h', t1, t2, n1, n2]

set_option maxHeartbeats 2000000 in
theorem fnAllowed (a : Option Addr) (n c : Nat) (zs : List Int) (w0 : World) (h : IsRow .u8 w0 a n c zs) :
    Calls Try.prog 7 #[.slice a n c] w0 (Yes w0) := by
  have HO := Lib.hid (drawStateAllowed a n c zs w0 h)
  clear h
  by_cases hn : 1048576 < n
  · go_enter Try.func7, Try.ntmps7
    go_wp2_with fail
    go_ret
    exact ⟨rfl, Below.refl _ _⟩
  · go_enter Try.func7, Try.ntmps7
    go_wp2_with fail
    refine HO.out.mono ?_
    rintro e w ⟨s1, l1, j1, o1, s2, l2, j2, o2, _, _, rfl, hb0⟩
    clear HO hn
    go_wp2_with fail
    (with_reducible refine (iStateAllowed _ _ _ _ _ _ _ _ _).mono ?_)
    rintro e w2 ⟨rfl, b2⟩
    have hz2 := b2.size
    obtain ⟨hc2, hf2⟩ := bcell b2
    have B2 : Below w.heap.size w w2 := Below.trans (by repeat (first | (with_reducible refine Below.drew ?_) | (with_reducible refine below_drewN ?_ _) | (with_reducible refine Below.alloc ?_ ?_ _) | (with_reducible refine Below.setCell ?_ ?_ _) | (with_reducible assumption) | (with_reducible exact Below.refl _ _) | omega | (simp <;> omega))) (b2.mono (by first | omega | (simp <;> omega)))
    (try simp at hz2)
    have hy2 : w.heap.size < w2.heap.size := by omega
    clear b2
    have hx2 : w.heap.size + 1 < w2.heap.size := by omega
    go_wp2_with fail
    (with_reducible refine (sStateAllowed _ _ _ _ _ _ _ _ _).mono ?_)
    rintro e w3 ⟨rfl, b3⟩
    have hz3 := b3.size
    obtain ⟨hc3, hf3⟩ := bcell b3
    have B3 : Below w.heap.size w w3 := Below.trans (by repeat (first | (with_reducible refine Below.drew ?_) | (with_reducible refine below_drewN ?_ _) | (with_reducible refine Below.alloc ?_ ?_ _) | (with_reducible refine Below.setCell ?_ ?_ _) | (with_reducible assumption) | (with_reducible exact Below.refl _ _) | omega | (simp <;> omega))) (b3.mono (by first | omega | (simp <;> omega)))
    (try simp at hz3)
    have hy3 : w.heap.size < w3.heap.size := by omega
    clear b3
    have hx3 : w.heap.size + 1 < w3.heap.size := by omega
    by_cases hal : allowed s1 l1 j1 o1 s2 l2 j2 o2 = true
    · obtain ⟨k1, k2, k3, k4⟩ := allowed_parts hal
      have HS := Lib.hid ((allowed_swap s1 l1 j1 o1 s2 l2 j2 o2).symm.trans hal)
      have HN := Lib.hid (allowed_same s1 l1 j1 s2 l2 j2 o2)
      clear k4
      go_wp2_with fail
      (with_reducible refine (iStateAllowed _ _ _ _ _ _ _ _ _).mono ?_)
      rintro e w4 ⟨rfl, b4⟩
      rw [HS.out]
      have B4 : Below w.heap.size w w4 := Below.trans (by repeat (first | (with_reducible refine Below.drew ?_) | (with_reducible refine below_drewN ?_ _) | (with_reducible refine Below.alloc ?_ ?_ _) | (with_reducible refine Below.setCell ?_ ?_ _) | (with_reducible assumption) | (with_reducible exact Below.refl _ _) | omega | (simp <;> omega))) (b4.mono (by first | omega | (simp <;> omega)))
      have s4 := b4.size
      obtain ⟨hc4, hf4⟩ := bcell b4
      simp at s4
      have y4 : w.heap.size < w3.heap.size + 1 := by omega
      have x4 : w.heap.size + 1 < w3.heap.size + 1 := by omega
      clear b4
      go_wp2_with fail
      (with_reducible refine (iStateAllowed _ _ _ _ _ _ _ _ _).mono ?_)
      rintro e w5 ⟨rfl, b5⟩
      rw [HN.out]
      have B5 : Below w.heap.size w w5 := Below.trans B4 (b5.mono B4.size)
      have s5 := b5.size
      obtain ⟨hc5, hf5⟩ := bcell b5
      have y5 : w.heap.size < w4.heap.size := by omega
      have x5 : w.heap.size + 1 < w4.heap.size := by omega
      clear b5
      go_wp2_with fail
      (with_reducible refine (iStateValid _ _ _ _ _).mono ?_)
      rintro e w6 ⟨rfl, b6⟩
      rw [k1]
      have B6 : Below w.heap.size w w6 := Below.trans B5 (b6.mono B5.size)
      have s6 := b6.size
      obtain ⟨hc6, hf6⟩ := bcell b6
      have y6 : w.heap.size < w5.heap.size := by omega
      have x6 : w.heap.size + 1 < w5.heap.size := by omega
      clear b6
      go_wp2_with fail
      (with_reducible refine (iStateValid _ _ _ _ _).mono ?_)
      rintro e w7 ⟨rfl, b7⟩
      rw [k2]
      have B7 : Below w.heap.size w w7 := Below.trans B6 (b7.mono B6.size)
      have s7 := b7.size
      obtain ⟨hc7, hf7⟩ := bcell b7
      have y7 : w.heap.size < w6.heap.size := by omega
      have x7 : w.heap.size + 1 < w6.heap.size := by omega
      clear b7
      go_wp2
      go_ret
      exact ⟨rfl, hb0.trans (B7.mono hb0.size)⟩
    · have hal' : allowed s1 l1 j1 o1 s2 l2 j2 o2 = false := by simpa using hal
      clear hal
      go_wp2
      go_ret
      exact ⟨rfl, hb0.trans (B3.mono hb0.size)⟩

set_option maxHeartbeats 2000000 in
theorem fnAllowedFlip (a : Option Addr) (n c : Nat) (zs : List Int) (w0 : World) (h : IsRow .u8 w0 a n c zs) :
    Calls Try.prog 8 #[.slice a n c] w0 (Yes w0) := by
  have HO := Lib.hid (drawStateAllowed a n c zs w0 h)
  clear h
  by_cases hn : 1048576 < n
  · go_enter Try.func8, Try.ntmps8
    go_wp2_with fail
    go_ret
    exact ⟨rfl, Below.refl _ _⟩
  · go_enter Try.func8, Try.ntmps8
    go_wp2_with fail
    refine HO.out.mono ?_
    rintro e w ⟨s1, l1, j1, o1, s2, l2, j2, o2, _, _, rfl, hb0⟩
    clear HO hn
    go_wp2_with fail
    (with_reducible refine (iStateAllowed _ _ _ _ _ _ _ _ _).mono ?_)
    rintro e w2 ⟨rfl, b2⟩
    have hz2 := b2.size
    obtain ⟨hc2, hf2⟩ := bcell b2
    have B2 : Below w.heap.size w w2 := Below.trans (by repeat (first | (with_reducible refine Below.drew ?_) | (with_reducible refine below_drewN ?_ _) | (with_reducible refine Below.alloc ?_ ?_ _) | (with_reducible refine Below.setCell ?_ ?_ _) | (with_reducible assumption) | (with_reducible exact Below.refl _ _) | omega | (simp <;> omega))) (b2.mono (by first | omega | (simp <;> omega)))
    (try simp at hz2)
    have hy2 : w.heap.size < w2.heap.size := by omega
    clear b2
    have hx2 : w.heap.size + 1 < w2.heap.size := by omega
    go_wp2_with fail
    (with_reducible refine (sStateAllowed _ _ _ _ _ _ _ _ _).mono ?_)
    rintro e w3 ⟨rfl, b3⟩
    have hz3 := b3.size
    obtain ⟨hc3, hf3⟩ := bcell b3
    have B3 : Below w.heap.size w w3 := Below.trans (by repeat (first | (with_reducible refine Below.drew ?_) | (with_reducible refine below_drewN ?_ _) | (with_reducible refine Below.alloc ?_ ?_ _) | (with_reducible refine Below.setCell ?_ ?_ _) | (with_reducible assumption) | (with_reducible exact Below.refl _ _) | omega | (simp <;> omega))) (b3.mono (by first | omega | (simp <;> omega)))
    (try simp at hz3)
    have hy3 : w.heap.size < w3.heap.size := by omega
    clear b3
    have hx3 : w.heap.size + 1 < w3.heap.size := by omega
    by_cases hal : allowed s1 l1 j1 o1 s2 l2 j2 o2 = true
    · have HS := Lib.hid ((allowed_flip s1 l1 j1 o1 s2 l2 j2 o2).trans hal)
      go_wp2_with fail
      (with_reducible refine (iStateAllowed _ _ _ _ _ _ _ _ _).mono ?_)
      rintro e w4 ⟨rfl, b4⟩
      rw [HS.out]
      have B4 : Below w.heap.size w w4 := Below.trans (by repeat (first | (with_reducible refine Below.drew ?_) | (with_reducible refine below_drewN ?_ _) | (with_reducible refine Below.alloc ?_ ?_ _) | (with_reducible refine Below.setCell ?_ ?_ _) | (with_reducible assumption) | (with_reducible exact Below.refl _ _) | omega | (simp <;> omega))) (b4.mono (by first | omega | (simp <;> omega)))
      clear b4
      go_wp2
      go_ret
      exact ⟨rfl, hb0.trans (B4.mono hb0.size)⟩
    · have hal' : allowed s1 l1 j1 o1 s2 l2 j2 o2 = false := by simpa using hal
      clear hal
      go_wp2
      go_ret
      exact ⟨rfl, hb0.trans (B3.mono hb0.size)⟩

set_option maxHeartbeats 2000000 in
theorem fnStatesOf (a : Option Addr) (n c : Nat) (zs : List Int) (w0 : World) (h : IsRow .u8 w0 a n c zs) :
    Calls Try.prog 5 #[.slice a n c] w0 (Yes w0) := by
  have HO := Lib.hid (drawStatesOf a n c zs w0 h)
  clear h
  by_cases hn : 1048576 < n
  · go_enter Try.func5, Try.ntmps5
    go_wp2_with fail
    go_ret
    exact ⟨rfl, Below.refl _ _⟩
  · go_enter Try.func5, Try.ntmps5
    go_wp2_with fail
    refine HO.out.mono ?_
    rintro e w ⟨s, l, odd, _, _, _, _, rfl, hb0⟩
    clear HO hn
    have hcm := levelJs_le s l
    go_wp2_with fail
    (with_reducible refine (iStatesOf _ _ _ _).mono ?_)
    rintro e w1 ⟨v1, rfl, O1, b1⟩
    have B1 : Below w.heap.size w w1 := Below.trans (by repeat (first | (with_reducible refine Below.drew ?_) | (with_reducible refine below_drewN ?_ _) | (with_reducible refine Below.alloc ?_ ?_ _) | (with_reducible refine Below.setCell ?_ ?_ _) | (with_reducible assumption) | (with_reducible exact Below.refl _ _) | omega | (simp <;> omega))) (b1.mono (by simp))
    have HT1 := Lib.hid ((b1.block w.heap.size (by simp)).trans (heap_alloc_new w _))
    have y1 : w.heap.size < w1.heap.size := by have := b1.size; simp at this; omega
    obtain ⟨t0, t1, _, _⟩ := blk2 HT1.out
    clear b1
    go_wp2_with fail
    (with_reducible refine (sStatesOf _ _ _ _).mono ?_)
    rintro e w2 ⟨v2, rfl, O2, b2⟩
    have B2 := B1.trans (b2.mono B1.size)
    have HT2 := Lib.hid ((b2.block w.heap.size y1).trans HT1.out)
    have P1 := own_below O1 b2 (Nat.le_refl _)
    have y2 : w.heap.size < w2.heap.size := Nat.lt_of_lt_of_le y1 b2.size
    clear b2 O1 HT1 t0 t1 B1
    go_wp2_with fail
    (with_reducible refine (sameStates s l odd (levelJs s l) _ _ _ (Sees.of_own P1) (Sees.of_own O2)).mono ?_)
    rintro e w3 ⟨rfl, b3⟩
    have B3 := B2.trans (b3.mono B2.size)
    have HT3 := Lib.hid ((b3.block w.heap.size y2).trans HT2.out)
    have P3 := own_below P1 b3 (Nat.le_refl _)
    have O3 := own_below O2 b3 (Nat.le_refl _)
    have y3 : w.heap.size < w3.heap.size := Nat.lt_of_lt_of_le y2 b3.size
    obtain ⟨t0, t1, _, _⟩ := blk2 HT3.out
    clear b3 P1 O2 HT2 B2
    obtain ⟨m, hm⟩ : ∃ m, m = (levelJs s l).length := ⟨_, rfl⟩
    have HM := Lib.hid hm
    have hm5 : m ≤ 25 := by omega
    rcases P3.2 with ⟨rfl, h0⟩ | ⟨g, cap, cur, rfl, hbg, hg, hnc, hcm', hcs, htake⟩
    · clear hm
      go_wp2_with fail
      (with_reducible refine (sameStates s l odd (levelJs s l) _ _ _ (Sees.of_own P3) (Sees.of_own O3)).mono ?_)
      rintro e w4 ⟨rfl, b4⟩
      have B4 := B3.trans (b4.mono B3.size)
      clear b4
      go_wp2
      go_ret
      exact ⟨rfl, hb0.trans (B4.mono hb0.size)⟩
    · clear hg hcs htake
      unfold maxLen at hcm'
      rw [← hm] at hnc ⊢
      by_cases hz : m = 0
      · subst hz
        clear hm
        go_wp2_with fail
        (with_reducible refine (sameStates s l odd (levelJs s l) _ _ _ (by rw [← HM.out]; exact Sees.of_own (by have h := P3; rw [← HM.out] at h; exact h)) (Sees.of_own O3)).mono ?_)
        rintro e w4 ⟨rfl, b4⟩
        have B4 := B3.trans (b4.mono B3.size)
        clear b4
        go_wp2
        go_ret
        exact ⟨rfl, hb0.trans (B4.mono hb0.size)⟩
      · have hz' : ((m : Int) == 0) = false := beq_eq_false_iff_ne.2 (by omega)
        clear hm
        go_wp2_with fail
        (with_reducible refine (iLevelsOf _ _ _).mono ?_)
        rintro e w4 ⟨v4, rfl, L4, b4⟩
        have B4 := B3.trans (b4.mono B3.size)
        have P4 := own_below P3 b4 (Nat.le_refl _)
        have HP := Lib.hid (fun j (hj : j < m * 4) => P4.cellAt j (by have := HM.out; omega))
        have gl : g < w4.heap.size := (P4.lt g rfl).2
        clear b4 P3 O3 t0 t1 HT3 B3 P4
        rcases L4.2 with ⟨rfl, h0⟩ | ⟨g', cap', cur', rfl, hbg', hg', hnc', hcm2, hcs', htake'⟩
        · exact absurd (HM.out.trans h0) hz
        · have HL := Lib.hid (fun j (hj : j < m * 3) => L4.cellAt j (by have := HM.out; omega))
          have gl' : g' < w4.heap.size := (L4.lt g' rfl).2
          unfold maxLen at hcm2
          clear hg' hcs' htake' L4
          rw [← HM.out] at hnc' ⊢
          go_wp2
          go_loopw [8] (fun i wr => ∃ k q : Nat, k ≤ m ∧ i = .int .i64 k ∧ wr = w4.drewN q) (fun i _ => m - (intOf i).toNat)
          case atStart => exact ⟨0, 0, by omega, rfl, rfl⟩
          case round =>
            obtain ⟨k, q, hk, rfl, rfl⟩ := hrel
            by_cases hlt : k < m
            · have hkl : k < (levelJs s l).length := by have := HM.out; omega
              obtain ⟨u0, u1, u2, u3⟩ := state_cells (s := s) (l := l) (odd := odd) (js := levelJs s l) (b := g) (o := 0) (w := w4) (fun j hj => by rw [Nat.zero_add]; exact HP.out j (by have := HM.out; omega)) k hkl
              obtain ⟨p0, p1, p2⟩ := level_cells (s := s) (l := l) (js := levelJs s l) (b := g') (o := 0) (w := w4) (fun j hj => by rw [Nat.zero_add]; exact HL.out j (by have := HM.out; omega)) k hkl
              generalize (levelJs s l)[k] = jk at *
              simp only [Nat.zero_add] at u0 u1 u2 u3 p0 p1 p2
              have hk0 : (0 : Int) ≤ (k : Int) := Int.natCast_nonneg _
              have hk1 : (k : Int) < (m : Int) := by omega
              go_wp2
              go_quiet (fail)
              go_wp2
              go_roundw
              case rel => exact ⟨k + 1, _, by omega, by go_num, rfl⟩
              case measure => simp [intOf]; omega
            · go_wp2
              go_ret
              exact ⟨rfl, hb0.trans ((below_drewN B4 _).mono hb0.size)⟩

set_option maxHeartbeats 2000000 in
theorem fnAllowedTop (a : Option Addr) (n c : Nat) (zs : List Int) (w0 : World) (h : IsRow .u8 w0 a n c zs) :
    Calls Try.prog 9 #[.slice a n c] w0 (Yes w0) := by
  have HO := Lib.hid (drawStatesOf a n c zs w0 h)
  clear h
  by_cases hn : 1048576 < n
  · go_enter Try.func9, Try.ntmps9
    go_wp2_with fail
    go_ret
    exact ⟨rfl, Below.refl _ _⟩
  · go_enter Try.func9, Try.ntmps9
    go_wp2_with fail
    refine HO.out.mono ?_
    rintro e w ⟨s, l, odd, _, _, _, _, rfl, hb0⟩
    clear HO hn
    have hcm := levelJs_le s l
    go_wp2_with fail
    (with_reducible refine (iStatesOf _ _ _ _).mono ?_)
    rintro e w1 ⟨v1, rfl, O1, b1⟩
    have B1 : Below w.heap.size w w1 := Below.trans (by repeat (first | (with_reducible refine Below.drew ?_) | (with_reducible refine below_drewN ?_ _) | (with_reducible refine Below.alloc ?_ ?_ _) | (with_reducible refine Below.setCell ?_ ?_ _) | (with_reducible assumption) | (with_reducible exact Below.refl _ _) | omega | (simp <;> omega))) (b1.mono (by simp))
    have HT1 := Lib.hid ((b1.block w.heap.size (by simp)).trans (heap_alloc_new w _))
    have y1 : w.heap.size < w1.heap.size := by have := b1.size; simp at this; omega
    obtain ⟨t0, t1, _, _⟩ := blk2 HT1.out
    clear b1
    go_wp2_with fail
    (with_reducible refine (sStatesOf _ _ _ _).mono ?_)
    rintro e w2 ⟨v2, rfl, O2, b2⟩
    have B2 := B1.trans (b2.mono B1.size)
    have HT2 := Lib.hid ((b2.block w.heap.size y1).trans HT1.out)
    have P1 := own_below O1 b2 (Nat.le_refl _)
    have y2 : w.heap.size < w2.heap.size := Nat.lt_of_lt_of_le y1 b2.size
    clear b2 O1 HT1 t0 t1 B1
    go_wp2_with fail
    (with_reducible refine (sameStates s l odd (levelJs s l) _ _ _ (Sees.of_own P1) (Sees.of_own O2)).mono ?_)
    rintro e w3 ⟨rfl, b3⟩
    have B3 := B2.trans (b3.mono B2.size)
    have HT3 := Lib.hid ((b3.block w.heap.size y2).trans HT2.out)
    have P3 := own_below P1 b3 (Nat.le_refl _)
    have O3 := own_below O2 b3 (Nat.le_refl _)
    have y3 : w.heap.size < w3.heap.size := Nat.lt_of_lt_of_le y2 b3.size
    obtain ⟨t0, t1, _, _⟩ := blk2 HT3.out
    clear b3 P1 O2 HT2 B2
    obtain ⟨m, hm⟩ : ∃ m, m = (levelJs s l).length := ⟨_, rfl⟩
    have HM := Lib.hid hm
    have hm5 : m ≤ 25 := by omega
    rcases P3.2 with ⟨rfl, h0⟩ | ⟨g, cap, cur, rfl, hbg, hg, hnc, hcm', hcs, htake⟩
    · clear hm
      go_wp2_with fail
      (with_reducible refine (sameStates s l odd (levelJs s l) _ _ _ (Sees.of_own P3) (Sees.of_own O3)).mono ?_)
      rintro e w4 ⟨rfl, b4⟩
      have B4 := B3.trans (b4.mono B3.size)
      clear b4
      go_wp2
      go_ret
      exact ⟨rfl, hb0.trans (B4.mono hb0.size)⟩
    · clear hg hcs htake
      unfold maxLen at hcm'
      rw [← hm] at hnc ⊢
      by_cases hz : m = 0
      · subst hz
        clear hm
        go_wp2_with fail
        (with_reducible refine (sameStates s l odd (levelJs s l) _ _ _ (by rw [← HM.out]; exact Sees.of_own (by have h := P3; rw [← HM.out] at h; exact h)) (Sees.of_own O3)).mono ?_)
        rintro e w4 ⟨rfl, b4⟩
        have B4 := B3.trans (b4.mono B3.size)
        clear b4
        go_wp2
        go_ret
        exact ⟨rfl, hb0.trans (B4.mono hb0.size)⟩
      · have hz' : ((m : Int) == 0) = false := beq_eq_false_iff_ne.2 (by omega)
        clear hm
        go_wp2_with fail
        (with_reducible refine (iStatesOf _ _ _ _).mono ?_)
        rintro e w4 ⟨v4, rfl, L4, b4⟩
        have B4 := B3.trans (b4.mono B3.size)
        have P4 := own_below P3 b4 (Nat.le_refl _)
        have HT4 := Lib.hid ((b4.block w.heap.size y3).trans HT3.out)
        have gl : g < w4.heap.size := (P4.lt g rfl).2
        have ht := termOk_of_pos (s := s) (l := l) (by have := HM.out; omega)
        have q := termOk_true.1 ht
        obtain ⟨u0, u1⟩ := blk2 HT4.out
        obtain ⟨u1, _⟩ := u1
        clear b4 P3 O3 t0 t1 HT3 B3
        by_cases hl8 : l = 8
        · have hl8' : (l == 8) = true := by simp [hl8]
          have he : (levelJs s (l + 1)).length = 0 := by rw [levelJs_no (by simp [termOk]; omega)]; rfl
          rw [he] at L4
          rcases L4.2 with ⟨rfl, h0⟩ | ⟨g', cap', cur', rfl, hbg', hg', hnc', hcm2, hcs', htake'⟩
          · clear he L4 P4
            go_wp2
            go_ret
            exact ⟨rfl, hb0.trans (B4.mono hb0.size)⟩
          · clear he L4 P4 hg' hcs' htake'
            go_wp2
            go_ret
            exact ⟨rfl, hb0.trans (B4.mono hb0.size)⟩
        · have hl8' : (l == 8) = false := by simpa using hl8
          have ht' : termOk s (l + 1) = true := termOk_true.2 (by omega)
          obtain ⟨m', hm'⟩ : ∃ m', m' = (levelJs s (l + 1)).length := ⟨_, rfl⟩
          have HM' := Lib.hid hm'
          have hm1 : 1 ≤ m' := by rw [hm']; exact js_one ht'
          have hm25 : m' ≤ 25 := by rw [hm']; exact levelJs_le _ _
          have la := js_last ht
          have lb := js_last ht'
          have lc := top_allowed odd ht ht'
          rw [← hm'] at L4
          rcases L4.2 with ⟨rfl, h0⟩ | ⟨g', cap', cur', rfl, hbg', hg', hnc', hcm2, hcs', htake'⟩
          · omega
          · have gl' : g' < w4.heap.size := (L4.lt g' rfl).2
            unfold maxLen at hcm2
            clear hg' hcs' htake' hm'
            obtain ⟨p, rfl⟩ : ∃ p, m = p + 1 := ⟨m - 1, by omega⟩
            obtain ⟨p', rfl⟩ : ∃ p', m' = p' + 1 := ⟨m' - 1, by omega⟩
            have a4 := state_cells (s := s) (l := l) (odd := odd) (js := levelJs s l) (b := g) (o := 0) (w := w4) (fun j hj => by rw [Nat.zero_add]; exact P4.cellAt j hj) p (by have := HM.out; omega)
            have c4 := state_cells (s := s) (l := l + 1) (odd := !odd) (js := levelJs s (l + 1)) (b := g') (o := 0) (w := w4) (fun j hj => by rw [Nat.zero_add]; exact L4.cellAt j (by have := HM'.out; omega)) p' (by have := HM'.out; omega)
            simp only [Nat.zero_add] at a4 c4
            have ea : (levelJs s l)[p]'(by have := HM.out; omega) = 2 * l + s := by rw [← la]; congr 1; have := HM.out; omega
            have ec : (levelJs s (l + 1))[p']'(by have := HM'.out; omega) = 2 * (l + 1) + s := by rw [← lb]; congr 1; have := HM'.out; omega
            rw [ea] at a4
            rw [ec] at c4
            have KS := Lib.hid (fun (W' : World) (h : Below w4.heap.size w4 W') => show W'.cell? ⟨g, p * 4, none⟩ = some (.int .i64 s) ∧ W'.cell? ⟨g, p * 4 + 1, none⟩ = some (.int .i64 l) ∧ W'.cell? ⟨g, p * 4 + 2, none⟩ = some (.int .i64 (2 * l + s)) ∧ W'.cell? ⟨g, p * 4 + 3, none⟩ = some (.bool odd) ∧ W'.cell? ⟨g', p' * 4, none⟩ = some (.int .i64 s) ∧ W'.cell? ⟨g', p' * 4 + 1, none⟩ = some (.int .i64 (l + 1)) ∧ W'.cell? ⟨g', p' * 4 + 2, none⟩ = some (.int .i64 (2 * (l + 1) + s)) ∧ W'.cell? ⟨g', p' * 4 + 3, none⟩ = some (.bool (!odd)) from
              ⟨(h.cell (p := ⟨g, _, none⟩) gl).trans a4.1, (h.cell (p := ⟨g, _, none⟩) gl).trans a4.2.1, (h.cell (p := ⟨g, _, none⟩) gl).trans a4.2.2.1, (h.cell (p := ⟨g, _, none⟩) gl).trans a4.2.2.2, (h.cell (p := ⟨g', _, none⟩) gl').trans c4.1, (h.cell (p := ⟨g', _, none⟩) gl').trans c4.2.1, (h.cell (p := ⟨g', _, none⟩) gl').trans c4.2.2.1, (h.cell (p := ⟨g', _, none⟩) gl').trans c4.2.2.2⟩)
            have LC := Lib.hid lc
            clear a4 c4 ea ec la lb lc P4 L4
            have k0 : (0 : Int) ≤ (p : Int) := Int.natCast_nonneg _
            have k1 : (p : Int) < (p : Int) + 1 := by omega
            have k2 : (0 : Int) ≤ (p' : Int) := Int.natCast_nonneg _
            have k3 : (p' : Int) < (p' : Int) + 1 := by omega
            have k4 : (0 : Int) < (p' : Int) + 1 := by omega
            have k7 : IntKind.i64.wrap (p : Int) = (p : Int) := IntWalk.i64_in _ (by omega)
            have k8 : IntKind.i64.wrap (p' : Int) = (p' : Int) := IntWalk.i64_in _ (by omega)
            go_wp2_with fail
            go_region_held3 (fun w' => w'.cell? ⟨g, p * 4, none⟩ = some (.int .i64 s) ∧ w'.cell? ⟨g, p * 4 + 1, none⟩ = some (.int .i64 l) ∧ w'.cell? ⟨g, p * 4 + 2, none⟩ = some (.int .i64 (2 * l + s)) ∧ w'.cell? ⟨g, p * 4 + 3, none⟩ = some (.bool odd) ∧ w'.cell? ⟨g', p' * 4, none⟩ = some (.int .i64 s) ∧ w'.cell? ⟨g', p' * 4 + 1, none⟩ = some (.int .i64 (l + 1)) ∧ w'.cell? ⟨g', p' * 4 + 2, none⟩ = some (.int .i64 (2 * (l + 1) + s)) ∧ w'.cell? ⟨g', p' * 4 + 3, none⟩ = some (.bool (!odd)))
              (first | exact KS.out _ b5 | exact KS.out _ (Below.drew (Below.refl _ _)))
              (first | (go_at_call 16; (with_reducible refine (iStateAllowed _ _ _ _ _ _ _ _ _).mono ?_); rintro e w5 ⟨rfl, b5'⟩; have b5 : Below w4.heap.size w4 w5 := Below.trans ((Below.refl _ _).drew) b5'))
            rw [LC.out]
            clear KS k7 k8
            go_wp2
            go_ret
            exact ⟨rfl, hb0.trans ((B4.trans (b5.mono B4.size)).mono hb0.size)⟩

end Go.Proofs.Ytdlioofnoibidaa.AllowedLaws
