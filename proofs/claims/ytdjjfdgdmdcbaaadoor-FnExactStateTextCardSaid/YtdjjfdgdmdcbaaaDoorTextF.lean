/-
  Contracts of the texts of spins, terms, levels and states.
-/
import Derived.Test.YtdjjfdgdmdcbaaaDoorText
import Derived.BigQuiet
import Derived.Deep.DeepCutAuto
namespace Go.Proofs.YtdjjfdgdmdcbaaaDoor.TextF
open Go.RowKit Go.Lib Go.Proofs.YtdjjfdgdmdcbaaaDoor.Spin Go.Proofs.YtdjjfdgdmdcbaaaDoor.Later Go.Proofs.YtdjjfdgdmdcbaaaDoor.Text
set_option linter.unusedVariables false
set_option linter.unusedSimpArgs false

def letters : ByteArray := ⟨#[83, 80, 68, 70, 71, 72, 73, 75, 76]⟩
def letter (l : Nat) : ByteArray := letters.extract l (l + 1)
theorem letter_size : ∀ l : Nat, l ≤ 8 → (letter l).size = 1 := by
  intro l hl
  obtain rfl | rfl | rfl | rfl | rfl | rfl | rfl | rfl | rfl : l = 0 ∨ l = 1 ∨ l = 2 ∨ l = 3 ∨ l = 4 ∨ l = 5 ∨ l = 6 ∨ l = 7 ∨ l = 8 := by omega
  all_goals decide
theorem letters_size : letters.size = 9 := by decide
theorem run_letter (l : Nat) (hl : l ≤ 8) (w : World) : (Instr.slice 9 (.string ⟨#[83, 80, 68, 70, 71, 72, 73, 75, 76]⟩) (some (.int .i64 (l : Int))) (some (.int .i64 ((l : Int) + 1))) none).run Tryd.prog w = .ok (.string (letter l)) w := by
  show (Instr.slice 9 (.string letters) (some (.int .i64 (l : Int))) (some (.int .i64 ((l : Int) + 1))) none).run Tryd.prog w = .ok (.string (letter l)) w
  rw [run_slice_string w 9 letters .i64 .i64 _ _ (by kernel_rfl) (by omega) (by omega) (by rw [letters_size]; omega), show ((l : Int)).toNat = l by omega, show ((l : Int) + 1).toNat = l + 1 by omega]
  rfl
def spinS (j : Nat) : ByteArray := if j % 2 = 0 then numS (j / 2) else numS j ++ ⟨#[47, 50]⟩
def termS (s l : Nat) : ByteArray := numS (s + 1) ++ letter l
def levelS (s l j : Nat) : ByteArray := termS s l ++ spinS j
theorem size_app (a b : ByteArray) : (a ++ b).size = a.size + b.size := by simp
theorem two_size : (⟨#[47, 50]⟩ : ByteArray).size = 2 := by decide
theorem o_size : (⟨#[111]⟩ : ByteArray).size = 1 := by decide
theorem spinS_size (j : Nat) (h : j ≤ 24) : (spinS j).size ≤ 4 := by
  unfold spinS
  split
  · have := numS_size (j / 2) (by omega); omega
  · have := numS_size j (by omega); rw [size_app, two_size]; omega
theorem termS_size (s l : Nat) (hs : s ≤ 8) (hl : l ≤ 8) : 1 ≤ (termS s l).size ∧ (termS s l).size ≤ 3 := by
  unfold termS
  have h1 := numS_size (s + 1) (by omega)
  have h2 := letter_size l hl
  rw [size_app]; omega
theorem levelS_size (s l j : Nat) (hs : s ≤ 8) (hl : l ≤ 8) (hj : j ≤ 24) : 1 ≤ (levelS s l j).size ∧ (levelS s l j).size ≤ 7 := by
  unfold levelS
  have h1 := termS_size s l hs hl
  have h2 := spinS_size j hj
  rw [size_app]; omega
theorem fits {a b : ByteArray} {n : Nat} (h : a.size + b.size ≤ n) (hn : n ≤ 1000) : (9223372036854775807 < a.size + b.size) = False := by simp; omega

set_option maxRecDepth 100000 in
set_option maxHeartbeats 1000000 in
theorem iSpinText (j : Nat) (h : j ≤ 24) (w : World) : Calls Tryd.prog 17 #[.int .i64 j] w (Gives (.string (spinS j)) w) := by
  have hV := fun W => iSpinValid j W
  have hv : spinOk j = true := spinOk_true.2 (by omega)
  rw [hv] at hV
  have HV := Lib.hid hV
  have hj0 : (0 : Int) ≤ (j : Int) := by omega
  have hj24 : (j : Int) ≤ 24 := by omega
  clear hV hv
  unfold spinS
  by_cases he : j % 2 = 0
  · rw [if_pos he]
    obtain ⟨k, hk⟩ : ∃ k, j = 2 * k := ⟨j / 2, by omega⟩
    have HI := Lib.hid (fun W => itoa k (by omega) W)
    rw [show j / 2 = k by omega]
    have hk0 : (0 : Int) ≤ (k : Int) := by omega
    have hk1 : (k : Int) ≤ 12 := by omega
    have hr : (j : Int).tmod 2 = 0 := by rw [Int.tmod_eq_emod_of_nonneg (by omega)]; omega
    have hq : (j : Int).tdiv 2 = (k : Int) := by rw [Int.tdiv_eq_ediv_of_nonneg (by omega)]; omega
    obtain ⟨A, hA⟩ : ∃ A, A = numS k := ⟨_, rfl⟩
    rw [← hA] at HI ⊢
    clear hA he hk
    go_enter Tryd.func17, Tryd.ntmps17
    go_wp2_with fail
    (with_reducible refine (HV.out _).mono ?_)
    rintro e w' ⟨rfl, rfl⟩
    go_wp2_with fail
    (with_reducible refine ((HI.out _)).mono ?_)
    rintro e w' ⟨rfl, rfl⟩
    go_wp2
    go_ret
    exact ⟨rfl, (by repeat (first | (with_reducible refine Below.drew ?_) | (with_reducible refine below_drewN ?_ _) | (with_reducible refine Below.alloc ?_ ?_ _) | (with_reducible refine Below.setCell ?_ ?_ _) | (with_reducible assumption) | (with_reducible exact Below.refl _ _) | omega | (simp <;> omega)))⟩
  · rw [if_neg he]
    have HI := Lib.hid (fun W => itoa j (by omega) W)
    have hr : ((j : Int).tmod 2 == 0) = false := by rw [Int.tmod_eq_emod_of_nonneg (by omega)]; simp; omega
    have hr' : (j : Int).tmod 2 = 1 := by rw [Int.tmod_eq_emod_of_nonneg (by omega)]; omega
    have hsz := fits (a := numS j) (b := ⟨#[47, 50]⟩) (n := 4) (by have := numS_size j (by omega); rw [two_size]; omega) (by omega)
    have hsz2 : (9223372036854775807 < (numS j).size + 2) = False := by have := numS_size j (by omega); simp; omega
    have hsz3 : (numS j).size ≤ 2 := numS_size j (by omega)
    obtain ⟨A, hA⟩ : ∃ A, A = numS j := ⟨_, rfl⟩
    rw [← hA] at HI hsz hsz2 hsz3 ⊢
    clear hA he
    go_enter Tryd.func17, Tryd.ntmps17
    go_wp2_with fail
    (with_reducible refine (HV.out _).mono ?_)
    rintro e w' ⟨rfl, rfl⟩
    go_wp2_with fail
    (with_reducible refine ((HI.out _)).mono ?_)
    rintro e w' ⟨rfl, rfl⟩
    go_wp2
    go_ret
    exact ⟨rfl, (by repeat (first | (with_reducible refine Below.drew ?_) | (with_reducible refine below_drewN ?_ _) | (with_reducible refine Below.alloc ?_ ?_ _) | (with_reducible refine Below.setCell ?_ ?_ _) | (with_reducible assumption) | (with_reducible exact Below.refl _ _) | omega | (simp <;> omega)))⟩

theorem dec (i : Nat) (h : i < 100) (w : World) : Calls Tryd.prog 31 #[.int .i64 i] w (Gives (.string (numS i)) w) := by
  by_cases h1 : i < 10
  · exact dec1 i h1 w
  · exact dec2 i h1 h w

set_option maxRecDepth 100000 in
set_option maxHeartbeats 1000000 in
theorem sSpinText (j : Nat) (h : j ≤ 24) (w : World) : Calls Tryd.prog 20 #[.int .i64 j] w (Gives (.string (spinS j)) w) := by
  have hV := fun W => sSpinValid j W
  have hv : spinOk j = true := spinOk_true.2 (by omega)
  rw [hv] at hV
  have HV := Lib.hid hV
  have hj0 : (0 : Int) ≤ (j : Int) := by omega
  have hj24 : (j : Int) ≤ 24 := by omega
  clear hV hv
  unfold spinS
  by_cases he : j % 2 = 0
  · rw [if_pos he]
    obtain ⟨k, hk⟩ : ∃ k, j = 2 * k := ⟨j / 2, by omega⟩
    have HI := Lib.hid (fun W => dec k (by omega) W)
    rw [show j / 2 = k by omega]
    have hk0 : (0 : Int) ≤ (k : Int) := by omega
    have hk1 : (k : Int) ≤ 12 := by omega
    have hr : (j : Int).tmod 2 = 0 := by rw [Int.tmod_eq_emod_of_nonneg (by omega)]; omega
    have hq : (j : Int).tdiv 2 = (k : Int) := by rw [Int.tdiv_eq_ediv_of_nonneg (by omega)]; omega
    obtain ⟨A, hA⟩ : ∃ A, A = numS k := ⟨_, rfl⟩
    rw [← hA] at HI ⊢
    clear hA he hk
    go_enter Tryd.func20, Tryd.ntmps20
    go_wp2_with fail
    (with_reducible refine (HV.out _).mono ?_)
    rintro e w' ⟨rfl, rfl⟩
    go_wp2_with fail
    (with_reducible refine (HI.out _).mono ?_)
    rintro e w1 ⟨rfl, b1⟩
    go_wp2
    go_ret
    exact ⟨rfl, (by repeat (first | (with_reducible refine Below.drew ?_) | (with_reducible refine below_drewN ?_ _) | (with_reducible refine Below.alloc ?_ ?_ _) | (with_reducible refine Below.setCell ?_ ?_ _) | (with_reducible assumption) | (with_reducible exact Below.refl _ _) | omega | (simp <;> omega)))⟩
  · rw [if_neg he]
    have HI := Lib.hid (fun W => dec j (by omega) W)
    have hr : ((j : Int).tmod 2 == 0) = false := by rw [Int.tmod_eq_emod_of_nonneg (by omega)]; simp; omega
    have hr' : (j : Int).tmod 2 = 1 := by rw [Int.tmod_eq_emod_of_nonneg (by omega)]; omega
    have hsz := fits (a := numS j) (b := ⟨#[47, 50]⟩) (n := 4) (by have := numS_size j (by omega); rw [two_size]; omega) (by omega)
    have hsz2 : (9223372036854775807 < (numS j).size + 2) = False := by have := numS_size j (by omega); simp; omega
    have hsz3 : (numS j).size ≤ 2 := numS_size j (by omega)
    obtain ⟨A, hA⟩ : ∃ A, A = numS j := ⟨_, rfl⟩
    rw [← hA] at HI hsz hsz2 hsz3 ⊢
    clear hA he
    go_enter Tryd.func20, Tryd.ntmps20
    go_wp2_with fail
    (with_reducible refine (HV.out _).mono ?_)
    rintro e w' ⟨rfl, rfl⟩
    go_wp2_with fail
    (with_reducible refine (HI.out _).mono ?_)
    rintro e w1 ⟨rfl, b1⟩
    go_wp2
    go_ret
    exact ⟨rfl, (by repeat (first | (with_reducible refine Below.drew ?_) | (with_reducible refine below_drewN ?_ _) | (with_reducible refine Below.alloc ?_ ?_ _) | (with_reducible refine Below.setCell ?_ ?_ _) | (with_reducible assumption) | (with_reducible exact Below.refl _ _) | omega | (simp <;> omega)))⟩

set_option maxRecDepth 100000 in
set_option maxHeartbeats 1000000 in
theorem iTermText (s l : Nat) (hs : s ≤ 8) (hl : l ≤ 8) (w : World) : Calls Tryd.prog 16 #[.agg #[.int .i64 s, .int .i64 l]] w (Gives (.string (termS s l)) w) := by
  have hV := fun W => iTermValid s l W
  have hv : termOk s l = true := termOk_true.2 ⟨⟨by omega, by omega⟩, by omega, by omega⟩
  rw [hv] at hV
  have HV := Lib.hid hV
  have hI := fun W => itoa (s + 1) (by omega) W
  have hc : ((s + 1 : Nat) : Int) = (s : Int) + 1 := by omega
  rw [hc] at hI
  have hsl := fun W => run_letter l hl W
  have hw1 : IntKind.i64.wrap ((s : Int) + 1) = (s : Int) + 1 := IntWalk.i64_in _ (by omega)
  have hw2 : IntKind.i64.wrap ((l : Int) + 1) = (l : Int) + 1 := IntWalk.i64_in _ (by omega)
  have hsz := fits (a := numS (s + 1)) (b := letter l) (n := 4) (by have := numS_size (s + 1) (by omega); have := letter_size l hl; omega) (by omega)
  unfold termS
  obtain ⟨A, hA⟩ : ∃ A, A = numS (s + 1) := ⟨_, rfl⟩
  obtain ⟨B, hB⟩ : ∃ B, B = letter l := ⟨_, rfl⟩
  simp only [← hB] at hsl
  rw [← hA] at hI hsz ⊢
  rw [← hB] at hsz ⊢
  have HI := Lib.hid hI
  clear hA hB hV hv hc hI
  go_enter Tryd.func16, Tryd.ntmps16
  go_wp2_with fail
  (with_reducible refine (HV.out _).mono ?_)
  rintro e w1 ⟨rfl, b1⟩
  have hz1 := b1.size
  obtain ⟨hc1, hf1⟩ := bcell b1
  have B1 : Below w.heap.size w w1 := Below.trans (by repeat (first | (with_reducible refine Below.drew ?_) | (with_reducible refine below_drewN ?_ _) | (with_reducible refine Below.alloc ?_ ?_ _) | (with_reducible refine Below.setCell ?_ ?_ _) | (with_reducible assumption) | (with_reducible exact Below.refl _ _) | omega | (simp <;> omega))) (b1.mono (by first | omega | (simp <;> omega)))
  (try simp at hz1)
  have hy1 : w.heap.size < w1.heap.size := by omega
  clear b1
  have kc1_0_0 : w1.cell? ⟨w.heap.size, 0, none⟩ = some (.int .i64 s) := (hc1 (w.heap.size) 0 (by first | omega | (simp <;> omega))).trans (by first | (simp; done) | (simp [*]; done) | (simp [*, World.cell?_alloc_at, World.cell?_alloc_past, World.cell?_alloc_lt, lt2, lt3, lt4]; done))
  have kc1_1_0 : w1.cell? ⟨w.heap.size, 1, none⟩ = some (.int .i64 l) := (hc1 (w.heap.size) 1 (by first | omega | (simp <;> omega))).trans (by first | (simp; done) | (simp [*]; done) | (simp [*, World.cell?_alloc_at, World.cell?_alloc_past, World.cell?_alloc_lt, lt2, lt3, lt4]; done))
  have hx1 : w.heap.size < w1.heap.size := by omega
  go_wp2_with fail
  go_upto_region 3 with fail
  have f0 : ∀ p : Later w1.heap.size w1, p.W.cell? ⟨w.heap.size, 0, none⟩ = some (.int .i64 s) := Later.cell kc1_0_0 hx1
  have f1 : ∀ p : Later w1.heap.size w1, p.W.cell? ⟨w.heap.size, 1, none⟩ = some (.int .i64 l) := Later.cell kc1_1_0 hx1
  clear kc1_0_0 kc1_1_0 hc1 hf1
  refine Later.wp_region_later (w1.heap.size) (by kernel_rfl) (by kernel_rfl) ?_
  repeat (first | go_big_quiet_step ((go_at_call 27; with_reducible exact later_same (HI.out _))) | quiet_step ((go_at_call 27; with_reducible exact later_same (HI.out _))))
  refine wpQuiet_nil ?_
  rintro w2 ⟨q2, hq2⟩
  have b2 := q2.h
  rw [← hq2] at b2
  clear hq2 q2
  have B2 := B1.trans (b2.mono B1.size)
  go_wp2
  go_ret
  exact ⟨rfl, (by repeat (first | (with_reducible refine Below.drew ?_) | (with_reducible refine below_drewN ?_ _) | (with_reducible refine Below.alloc ?_ ?_ _) | (with_reducible refine Below.setCell ?_ ?_ _) | (with_reducible assumption) | (with_reducible exact Below.refl _ _) | omega | (simp <;> omega)))⟩

set_option maxRecDepth 100000 in
set_option maxHeartbeats 1000000 in
theorem sTermText (s l : Nat) (hs : s ≤ 8) (hl : l ≤ 8) (w : World) : Calls Tryd.prog 19 #[.agg #[.int .i64 s, .int .i64 l]] w (Gives (.string (termS s l)) w) := by
  have hV := fun W => sTermValid s l W
  have hv : termOk s l = true := termOk_true.2 ⟨⟨by omega, by omega⟩, by omega, by omega⟩
  rw [hv] at hV
  have HV := Lib.hid hV
  have hI := fun W => dec (s + 1) (by omega) W
  have hc : ((s + 1 : Nat) : Int) = (s : Int) + 1 := by omega
  rw [hc] at hI
  have hsl := fun W => run_letter l hl W
  have hw1 : IntKind.i64.wrap ((s : Int) + 1) = (s : Int) + 1 := IntWalk.i64_in _ (by omega)
  have hw2 : IntKind.i64.wrap ((l : Int) + 1) = (l : Int) + 1 := IntWalk.i64_in _ (by omega)
  have hsz := fits (a := numS (s + 1)) (b := letter l) (n := 4) (by have := numS_size (s + 1) (by omega); have := letter_size l hl; omega) (by omega)
  unfold termS
  obtain ⟨A, hA⟩ : ∃ A, A = numS (s + 1) := ⟨_, rfl⟩
  obtain ⟨B, hB⟩ : ∃ B, B = letter l := ⟨_, rfl⟩
  simp only [← hB] at hsl
  rw [← hA] at hI hsz ⊢
  rw [← hB] at hsz ⊢
  have HI := Lib.hid hI
  clear hA hB hV hv hc hI
  go_enter Tryd.func19, Tryd.ntmps19
  go_wp2_with fail
  (with_reducible refine (HV.out _).mono ?_)
  rintro e w1 ⟨rfl, b1⟩
  have hz1 := b1.size
  obtain ⟨hc1, hf1⟩ := bcell b1
  have B1 : Below w.heap.size w w1 := Below.trans (by repeat (first | (with_reducible refine Below.drew ?_) | (with_reducible refine below_drewN ?_ _) | (with_reducible refine Below.alloc ?_ ?_ _) | (with_reducible refine Below.setCell ?_ ?_ _) | (with_reducible assumption) | (with_reducible exact Below.refl _ _) | omega | (simp <;> omega))) (b1.mono (by first | omega | (simp <;> omega)))
  (try simp at hz1)
  have hy1 : w.heap.size < w1.heap.size := by omega
  clear b1
  have kc1_0_0 : w1.cell? ⟨w.heap.size, 0, none⟩ = some (.int .i64 s) := (hc1 (w.heap.size) 0 (by first | omega | (simp <;> omega))).trans (by first | (simp; done) | (simp [*]; done) | (simp [*, World.cell?_alloc_at, World.cell?_alloc_past, World.cell?_alloc_lt, lt2, lt3, lt4]; done))
  have kc1_1_0 : w1.cell? ⟨w.heap.size, 1, none⟩ = some (.int .i64 l) := (hc1 (w.heap.size) 1 (by first | omega | (simp <;> omega))).trans (by first | (simp; done) | (simp [*]; done) | (simp [*, World.cell?_alloc_at, World.cell?_alloc_past, World.cell?_alloc_lt, lt2, lt3, lt4]; done))
  have hx1 : w.heap.size < w1.heap.size := by omega
  go_wp2_with fail
  go_upto_region 3 with fail
  have f0 : ∀ p : Later w1.heap.size w1, p.W.cell? ⟨w.heap.size, 0, none⟩ = some (.int .i64 s) := Later.cell kc1_0_0 hx1
  have f1 : ∀ p : Later w1.heap.size w1, p.W.cell? ⟨w.heap.size, 1, none⟩ = some (.int .i64 l) := Later.cell kc1_1_0 hx1
  clear kc1_0_0 kc1_1_0 hc1 hf1
  refine Later.wp_region_later (w1.heap.size) (by kernel_rfl) (by kernel_rfl) ?_
  repeat (first | go_big_quiet_step ((go_at_call 31; with_reducible exact later_gives (Nat.le_refl _) (HI.out _))) | quiet_step ((go_at_call 31; with_reducible exact later_gives (Nat.le_refl _) (HI.out _))))
  refine wpQuiet_nil ?_
  rintro w2 ⟨q2, hq2⟩
  have b2 := q2.h
  rw [← hq2] at b2
  clear hq2 q2
  have B2 := B1.trans (b2.mono B1.size)
  go_wp2
  go_ret
  exact ⟨rfl, (by repeat (first | (with_reducible refine Below.drew ?_) | (with_reducible refine below_drewN ?_ _) | (with_reducible refine Below.alloc ?_ ?_ _) | (with_reducible refine Below.setCell ?_ ?_ _) | (with_reducible assumption) | (with_reducible exact Below.refl _ _) | omega | (simp <;> omega)))⟩

set_option maxRecDepth 100000 in
set_option maxHeartbeats 1000000 in
theorem iLevelText (s l j : Nat) (h : levelOk s l j = true) (hs : s ≤ 8) (hl : l ≤ 8) (hj : j ≤ 24) (w : World) : Calls Tryd.prog 9 #[.agg #[.int .i64 s, .int .i64 l, .int .i64 j]] w (Gives (.string (levelS s l j)) w) := by
  have hV := fun W => iLevelValid s l j W
  rw [h] at hV
  have HV := Lib.hid hV
  have HT := Lib.hid (fun W => iTermText s l hs hl W)
  have HS := Lib.hid (fun W => iSpinText j hj W)
  have hsz := fits (a := termS s l) (b := spinS j) (n := 10) (by have := termS_size s l hs hl; have := spinS_size j hj; omega) (by omega)
  unfold levelS
  obtain ⟨A, hA⟩ : ∃ A, A = termS s l := ⟨_, rfl⟩
  obtain ⟨B, hB⟩ : ∃ B, B = spinS j := ⟨_, rfl⟩
  rw [← hA] at HT hsz ⊢
  rw [← hB] at HS hsz ⊢
  clear hA hB hV h
  go_enter Tryd.func9, Tryd.ntmps9
  go_wp2_with fail
  (with_reducible refine (HV.out _).mono ?_)
  rintro e w1 ⟨rfl, b1⟩
  have hz1 := b1.size
  obtain ⟨hc1, hf1⟩ := bcell b1
  have B1 : Below w.heap.size w w1 := Below.trans (by repeat (first | (with_reducible refine Below.drew ?_) | (with_reducible refine below_drewN ?_ _) | (with_reducible refine Below.alloc ?_ ?_ _) | (with_reducible refine Below.setCell ?_ ?_ _) | (with_reducible assumption) | (with_reducible exact Below.refl _ _) | omega | (simp <;> omega))) (b1.mono (by first | omega | (simp <;> omega)))
  (try simp at hz1)
  have hy1 : w.heap.size < w1.heap.size := by omega
  clear b1
  have kc1_0_0 : w1.cell? ⟨w.heap.size, 0, none⟩ = some (.int .i64 s) := (hc1 (w.heap.size) 0 (by first | omega | (simp <;> omega))).trans (by first | (simp; done) | (simp [*]; done) | (simp [*, World.cell?_alloc_at, World.cell?_alloc_past, World.cell?_alloc_lt, lt2, lt3, lt4]; done))
  have kc1_1_0 : w1.cell? ⟨w.heap.size, 1, none⟩ = some (.int .i64 l) := (hc1 (w.heap.size) 1 (by first | omega | (simp <;> omega))).trans (by first | (simp; done) | (simp [*]; done) | (simp [*, World.cell?_alloc_at, World.cell?_alloc_past, World.cell?_alloc_lt, lt2, lt3, lt4]; done))
  have kc1_2_0 : w1.cell? ⟨w.heap.size, 2, none⟩ = some (.int .i64 j) := (hc1 (w.heap.size) 2 (by first | omega | (simp <;> omega))).trans (by first | (simp; done) | (simp [*]; done) | (simp [*, World.cell?_alloc_at, World.cell?_alloc_past, World.cell?_alloc_lt, lt2, lt3, lt4]; done))
  have hx1 : w.heap.size < w1.heap.size := by omega
  go_wp2_with fail
  go_upto_region 3 with fail
  have f0 : ∀ p : Later w1.heap.size w1, p.W.cell? ⟨w.heap.size, 0, none⟩ = some (.int .i64 s) := Later.cell kc1_0_0 hx1
  have f1 : ∀ p : Later w1.heap.size w1, p.W.cell? ⟨w.heap.size, 1, none⟩ = some (.int .i64 l) := Later.cell kc1_1_0 hx1
  have f2 : ∀ p : Later w1.heap.size w1, p.W.cell? ⟨w.heap.size, 2, none⟩ = some (.int .i64 j) := Later.cell kc1_2_0 hx1
  clear kc1_0_0 kc1_1_0 kc1_2_0 hc1 hf1
  refine Later.wp_region_later (w1.heap.size) (by kernel_rfl) (by kernel_rfl) ?_
  repeat (first | go_big_quiet_step ((first | (go_at_call 16; with_reducible exact later_gives (Nat.le_refl _) (HT.out _)) | (go_at_call 17; with_reducible exact later_gives (Nat.le_refl _) (HS.out _)))) | quiet_step ((first | (go_at_call 16; with_reducible exact later_gives (Nat.le_refl _) (HT.out _)) | (go_at_call 17; with_reducible exact later_gives (Nat.le_refl _) (HS.out _)))))
  refine wpQuiet_nil ?_
  rintro w2 ⟨q2, hq2⟩
  have b2 := q2.h
  rw [← hq2] at b2
  clear hq2 q2
  have B2 := B1.trans (b2.mono B1.size)
  go_wp2
  go_ret
  exact ⟨rfl, (by repeat (first | (with_reducible refine Below.drew ?_) | (with_reducible refine below_drewN ?_ _) | (with_reducible refine Below.alloc ?_ ?_ _) | (with_reducible refine Below.setCell ?_ ?_ _) | (with_reducible assumption) | (with_reducible exact Below.refl _ _) | omega | (simp <;> omega)))⟩
theorem iLevelText_no (s l j : Int) (h : levelOk s l j = false) (w : World) : Calls Tryd.prog 9 #[.agg #[.int .i64 s, .int .i64 l, .int .i64 j]] w (Gives (.string ⟨#[]⟩) w) := by
  have hV := fun W => iLevelValid s l j W
  rw [h] at hV
  have HV := Lib.hid hV
  clear hV h
  go_enter Tryd.func9, Tryd.ntmps9
  go_wp2_with fail
  (with_reducible refine (HV.out _).mono ?_)
  rintro e w1 ⟨rfl, b1⟩
  have hz1 := b1.size
  obtain ⟨hc1, hf1⟩ := bcell b1
  have B1 : Below w.heap.size w w1 := Below.trans (by repeat (first | (with_reducible refine Below.drew ?_) | (with_reducible refine below_drewN ?_ _) | (with_reducible refine Below.alloc ?_ ?_ _) | (with_reducible refine Below.setCell ?_ ?_ _) | (with_reducible assumption) | (with_reducible exact Below.refl _ _) | omega | (simp <;> omega))) (b1.mono (by first | omega | (simp <;> omega)))
  (try simp at hz1)
  have hy1 : w.heap.size < w1.heap.size := by omega
  clear b1
  go_wp2
  go_ret
  exact ⟨rfl, (by repeat (first | (with_reducible refine Below.drew ?_) | (with_reducible refine below_drewN ?_ _) | (with_reducible refine Below.alloc ?_ ?_ _) | (with_reducible refine Below.setCell ?_ ?_ _) | (with_reducible assumption) | (with_reducible exact Below.refl _ _) | omega | (simp <;> omega)))⟩

set_option maxRecDepth 100000 in
set_option maxHeartbeats 1000000 in
theorem sLevelText (s l j : Nat) (h : levelOk s l j = true) (hs : s ≤ 8) (hl : l ≤ 8) (hj : j ≤ 24) (w : World) : Calls Tryd.prog 12 #[.agg #[.int .i64 s, .int .i64 l, .int .i64 j]] w (Gives (.string (levelS s l j)) w) := by
  have hV := fun W => sLevelValid s l j W
  rw [h] at hV
  have HV := Lib.hid hV
  have HT := Lib.hid (fun W => sTermText s l hs hl W)
  have HS := Lib.hid (fun W => sSpinText j hj W)
  have hsz := fits (a := termS s l) (b := spinS j) (n := 10) (by have := termS_size s l hs hl; have := spinS_size j hj; omega) (by omega)
  unfold levelS
  obtain ⟨A, hA⟩ : ∃ A, A = termS s l := ⟨_, rfl⟩
  obtain ⟨B, hB⟩ : ∃ B, B = spinS j := ⟨_, rfl⟩
  rw [← hA] at HT hsz ⊢
  rw [← hB] at HS hsz ⊢
  clear hA hB hV h
  go_enter Tryd.func12, Tryd.ntmps12
  go_wp2_with fail
  (with_reducible refine (HV.out _).mono ?_)
  rintro e w1 ⟨rfl, b1⟩
  have hz1 := b1.size
  obtain ⟨hc1, hf1⟩ := bcell b1
  have B1 : Below w.heap.size w w1 := Below.trans (by repeat (first | (with_reducible refine Below.drew ?_) | (with_reducible refine below_drewN ?_ _) | (with_reducible refine Below.alloc ?_ ?_ _) | (with_reducible refine Below.setCell ?_ ?_ _) | (with_reducible assumption) | (with_reducible exact Below.refl _ _) | omega | (simp <;> omega))) (b1.mono (by first | omega | (simp <;> omega)))
  (try simp at hz1)
  have hy1 : w.heap.size < w1.heap.size := by omega
  clear b1
  have kc1_0_0 : w1.cell? ⟨w.heap.size, 0, none⟩ = some (.int .i64 s) := (hc1 (w.heap.size) 0 (by first | omega | (simp <;> omega))).trans (by first | (simp; done) | (simp [*]; done) | (simp [*, World.cell?_alloc_at, World.cell?_alloc_past, World.cell?_alloc_lt, lt2, lt3, lt4]; done))
  have kc1_1_0 : w1.cell? ⟨w.heap.size, 1, none⟩ = some (.int .i64 l) := (hc1 (w.heap.size) 1 (by first | omega | (simp <;> omega))).trans (by first | (simp; done) | (simp [*]; done) | (simp [*, World.cell?_alloc_at, World.cell?_alloc_past, World.cell?_alloc_lt, lt2, lt3, lt4]; done))
  have kc1_2_0 : w1.cell? ⟨w.heap.size, 2, none⟩ = some (.int .i64 j) := (hc1 (w.heap.size) 2 (by first | omega | (simp <;> omega))).trans (by first | (simp; done) | (simp [*]; done) | (simp [*, World.cell?_alloc_at, World.cell?_alloc_past, World.cell?_alloc_lt, lt2, lt3, lt4]; done))
  have hx1 : w.heap.size < w1.heap.size := by omega
  go_wp2_with fail
  go_upto_region 3 with fail
  have f0 : ∀ p : Later w1.heap.size w1, p.W.cell? ⟨w.heap.size, 0, none⟩ = some (.int .i64 s) := Later.cell kc1_0_0 hx1
  have f1 : ∀ p : Later w1.heap.size w1, p.W.cell? ⟨w.heap.size, 1, none⟩ = some (.int .i64 l) := Later.cell kc1_1_0 hx1
  have f2 : ∀ p : Later w1.heap.size w1, p.W.cell? ⟨w.heap.size, 2, none⟩ = some (.int .i64 j) := Later.cell kc1_2_0 hx1
  clear kc1_0_0 kc1_1_0 kc1_2_0 hc1 hf1
  refine Later.wp_region_later (w1.heap.size) (by kernel_rfl) (by kernel_rfl) ?_
  repeat (first | go_big_quiet_step ((first | (go_at_call 19; with_reducible exact later_gives (Nat.le_refl _) (HT.out _)) | (go_at_call 20; with_reducible exact later_gives (Nat.le_refl _) (HS.out _)))) | quiet_step ((first | (go_at_call 19; with_reducible exact later_gives (Nat.le_refl _) (HT.out _)) | (go_at_call 20; with_reducible exact later_gives (Nat.le_refl _) (HS.out _)))))
  refine wpQuiet_nil ?_
  rintro w2 ⟨q2, hq2⟩
  have b2 := q2.h
  rw [← hq2] at b2
  clear hq2 q2
  have B2 := B1.trans (b2.mono B1.size)
  go_wp2
  go_ret
  exact ⟨rfl, (by repeat (first | (with_reducible refine Below.drew ?_) | (with_reducible refine below_drewN ?_ _) | (with_reducible refine Below.alloc ?_ ?_ _) | (with_reducible refine Below.setCell ?_ ?_ _) | (with_reducible assumption) | (with_reducible exact Below.refl _ _) | omega | (simp <;> omega)))⟩
theorem sLevelText_no (s l j : Int) (h : levelOk s l j = false) (w : World) : Calls Tryd.prog 12 #[.agg #[.int .i64 s, .int .i64 l, .int .i64 j]] w (Gives (.string ⟨#[]⟩) w) := by
  have hV := fun W => sLevelValid s l j W
  rw [h] at hV
  have HV := Lib.hid hV
  clear hV h
  go_enter Tryd.func12, Tryd.ntmps12
  go_wp2_with fail
  (with_reducible refine (HV.out _).mono ?_)
  rintro e w1 ⟨rfl, b1⟩
  have hz1 := b1.size
  obtain ⟨hc1, hf1⟩ := bcell b1
  have B1 : Below w.heap.size w w1 := Below.trans (by repeat (first | (with_reducible refine Below.drew ?_) | (with_reducible refine below_drewN ?_ _) | (with_reducible refine Below.alloc ?_ ?_ _) | (with_reducible refine Below.setCell ?_ ?_ _) | (with_reducible assumption) | (with_reducible exact Below.refl _ _) | omega | (simp <;> omega))) (b1.mono (by first | omega | (simp <;> omega)))
  (try simp at hz1)
  have hy1 : w.heap.size < w1.heap.size := by omega
  clear b1
  go_wp2
  go_ret
  exact ⟨rfl, (by repeat (first | (with_reducible refine Below.drew ?_) | (with_reducible refine below_drewN ?_ _) | (with_reducible refine Below.alloc ?_ ?_ _) | (with_reducible refine Below.setCell ?_ ?_ _) | (with_reducible assumption) | (with_reducible exact Below.refl _ _) | omega | (simp <;> omega)))⟩

/-- the numbers of a level -/
theorem level_nat {s l j : Int} (h : levelOk s l j = true) : ∃ a b c : Nat, s = a ∧ l = b ∧ j = c ∧ a ≤ 8 ∧ b ≤ 8 ∧ c ≤ 24 := by
  have h0 := h
  unfold levelOk at h0
  rw [Bool.and_eq_true] at h0
  have h1 := termOk_true.1 h0.1
  have h2 := tri_true.1 h0.2
  exact ⟨s.toNat, l.toNat, j.toNat, by omega, by omega, by omega, by omega, by omega, by omega⟩
def stateS (s l j : Int) (o : Bool) : ByteArray := if levelOk s l j = true then (if o = true then levelS s.toNat l.toNat j.toNat ++ ⟨#[111]⟩ else levelS s.toNat l.toNat j.toNat) else ⟨#[]⟩
theorem stateS_no {s l j : Int} {o : Bool} (h : levelOk s l j = false) : stateS s l j o = ⟨#[]⟩ := by unfold stateS; rw [h]; rfl
theorem stateS_odd {a b c : Nat} (h : levelOk a b c = true) : stateS a b c true = levelS a b c ++ ⟨#[111]⟩ := by
  unfold stateS
  rw [if_pos h, if_pos rfl]; simp
theorem stateS_even {a b c : Nat} (h : levelOk a b c = true) : stateS a b c false = levelS a b c := by
  unfold stateS
  rw [if_pos h]; simp
set_option maxRecDepth 100000 in
set_option maxHeartbeats 1000000 in
theorem iStateText (s l j : Int) (o : Bool) (w : World) : Calls Tryd.prog 7 #[.agg #[.int .i64 s, .int .i64 l, .int .i64 j, .bool o]] w (Gives (.string (stateS s l j o)) w) := by
  have hV := fun W => iStateValid s l j o W
  cases h : levelOk s l j
  · rw [h] at hV
    have HV := Lib.hid hV
    rw [stateS_no h]
    clear hV h
    go_enter Tryd.func7, Tryd.ntmps7
    go_wp2_with fail
    (with_reducible refine (HV.out _).mono ?_)
    rintro e w1 ⟨rfl, b1⟩
    have hz1 := b1.size
    obtain ⟨hc1, hf1⟩ := bcell b1
    have B1 : Below w.heap.size w w1 := Below.trans (by repeat (first | (with_reducible refine Below.drew ?_) | (with_reducible refine below_drewN ?_ _) | (with_reducible refine Below.alloc ?_ ?_ _) | (with_reducible refine Below.setCell ?_ ?_ _) | (with_reducible assumption) | (with_reducible exact Below.refl _ _) | omega | (simp <;> omega))) (b1.mono (by first | omega | (simp <;> omega)))
    (try simp at hz1)
    have hy1 : w.heap.size < w1.heap.size := by omega
    clear b1
    go_wp2
    go_ret
    exact ⟨rfl, (by repeat (first | (with_reducible refine Below.drew ?_) | (with_reducible refine below_drewN ?_ _) | (with_reducible refine Below.alloc ?_ ?_ _) | (with_reducible refine Below.setCell ?_ ?_ _) | (with_reducible assumption) | (with_reducible exact Below.refl _ _) | omega | (simp <;> omega)))⟩
  · rw [h] at hV
    have HV := Lib.hid hV
    obtain ⟨a, b, c, rfl, rfl, rfl, ha, hb, hc⟩ := level_nat h
    have HL := Lib.hid (fun W => iLevelText a b c h ha hb hc W)
    have hz := levelS_size a b c ha hb hc
    cases o
    · rw [stateS_even h]
      clear hV h hz
      generalize levelS a b c = A at *
      go_enter Tryd.func7, Tryd.ntmps7
      go_wp2_with fail
      (with_reducible refine (HV.out _).mono ?_)
      rintro e w1 ⟨rfl, b1⟩
      have hz1 := b1.size
      obtain ⟨hc1, hf1⟩ := bcell b1
      have B1 : Below w.heap.size w w1 := Below.trans (by repeat (first | (with_reducible refine Below.drew ?_) | (with_reducible refine below_drewN ?_ _) | (with_reducible refine Below.alloc ?_ ?_ _) | (with_reducible refine Below.setCell ?_ ?_ _) | (with_reducible assumption) | (with_reducible exact Below.refl _ _) | omega | (simp <;> omega))) (b1.mono (by first | omega | (simp <;> omega)))
      (try simp at hz1)
      have hy1 : w.heap.size < w1.heap.size := by omega
      clear b1
      have kc1_0_0 : w1.cell? ⟨w.heap.size, 0, none⟩ = some (.int .i64 a) := (hc1 (w.heap.size) 0 (by first | omega | (simp <;> omega))).trans (by first | (simp; done) | (simp [*]; done) | (simp [*, World.cell?_alloc_at, World.cell?_alloc_past, World.cell?_alloc_lt, lt2, lt3, lt4]; done))
      have kc1_1_0 : w1.cell? ⟨w.heap.size, 1, none⟩ = some (.int .i64 b) := (hc1 (w.heap.size) 1 (by first | omega | (simp <;> omega))).trans (by first | (simp; done) | (simp [*]; done) | (simp [*, World.cell?_alloc_at, World.cell?_alloc_past, World.cell?_alloc_lt, lt2, lt3, lt4]; done))
      have kc1_2_0 : w1.cell? ⟨w.heap.size, 2, none⟩ = some (.int .i64 c) := (hc1 (w.heap.size) 2 (by first | omega | (simp <;> omega))).trans (by first | (simp; done) | (simp [*]; done) | (simp [*, World.cell?_alloc_at, World.cell?_alloc_past, World.cell?_alloc_lt, lt2, lt3, lt4]; done))
      have kc1_3_0 : w1.cell? ⟨w.heap.size, 3, none⟩ = some (.bool false) := (hc1 (w.heap.size) 3 (by first | omega | (simp <;> omega))).trans (by first | (simp; done) | (simp [*]; done) | (simp [*, World.cell?_alloc_at, World.cell?_alloc_past, World.cell?_alloc_lt, lt2, lt3, lt4]; done))
      go_wp2_with fail
      (with_reducible refine (HL.out _).mono ?_)
      rintro e w2 ⟨rfl, b2⟩
      have hz2 := b2.size
      obtain ⟨hc2, hf2⟩ := bcell b2
      have B2 : Below w.heap.size w w2 := Below.trans (by repeat (first | (with_reducible refine Below.drew ?_) | (with_reducible refine below_drewN ?_ _) | (with_reducible refine Below.alloc ?_ ?_ _) | (with_reducible refine Below.setCell ?_ ?_ _) | (with_reducible assumption) | (with_reducible exact Below.refl _ _) | omega | (simp <;> omega))) (b2.mono (by first | omega | (simp <;> omega)))
      (try simp at hz2)
      have hy2 : w.heap.size < w2.heap.size := by omega
      clear b2
      go_wp2
      go_ret
      exact ⟨rfl, (by repeat (first | (with_reducible refine Below.drew ?_) | (with_reducible refine below_drewN ?_ _) | (with_reducible refine Below.alloc ?_ ?_ _) | (with_reducible refine Below.setCell ?_ ?_ _) | (with_reducible assumption) | (with_reducible exact Below.refl _ _) | omega | (simp <;> omega)))⟩
    · rw [stateS_odd h]
      have hsz := fits (a := levelS a b c) (b := ⟨#[111]⟩) (n := 10) (by rw [o_size]; omega) (by omega)
      have hsz2 : (9223372036854775807 < (levelS a b c).size + 1) = False := by simp; omega
      have hsz3 : (levelS a b c).size ≤ 7 := hz.2
      clear hV h hz
      generalize levelS a b c = A at *
      go_enter Tryd.func7, Tryd.ntmps7
      go_wp2_with fail
      (with_reducible refine (HV.out _).mono ?_)
      rintro e w1 ⟨rfl, b1⟩
      have hz1 := b1.size
      obtain ⟨hc1, hf1⟩ := bcell b1
      have B1 : Below w.heap.size w w1 := Below.trans (by repeat (first | (with_reducible refine Below.drew ?_) | (with_reducible refine below_drewN ?_ _) | (with_reducible refine Below.alloc ?_ ?_ _) | (with_reducible refine Below.setCell ?_ ?_ _) | (with_reducible assumption) | (with_reducible exact Below.refl _ _) | omega | (simp <;> omega))) (b1.mono (by first | omega | (simp <;> omega)))
      (try simp at hz1)
      have hy1 : w.heap.size < w1.heap.size := by omega
      clear b1
      have kc1_0_0 : w1.cell? ⟨w.heap.size, 0, none⟩ = some (.int .i64 a) := (hc1 (w.heap.size) 0 (by first | omega | (simp <;> omega))).trans (by first | (simp; done) | (simp [*]; done) | (simp [*, World.cell?_alloc_at, World.cell?_alloc_past, World.cell?_alloc_lt, lt2, lt3, lt4]; done))
      have kc1_1_0 : w1.cell? ⟨w.heap.size, 1, none⟩ = some (.int .i64 b) := (hc1 (w.heap.size) 1 (by first | omega | (simp <;> omega))).trans (by first | (simp; done) | (simp [*]; done) | (simp [*, World.cell?_alloc_at, World.cell?_alloc_past, World.cell?_alloc_lt, lt2, lt3, lt4]; done))
      have kc1_2_0 : w1.cell? ⟨w.heap.size, 2, none⟩ = some (.int .i64 c) := (hc1 (w.heap.size) 2 (by first | omega | (simp <;> omega))).trans (by first | (simp; done) | (simp [*]; done) | (simp [*, World.cell?_alloc_at, World.cell?_alloc_past, World.cell?_alloc_lt, lt2, lt3, lt4]; done))
      have kc1_3_0 : w1.cell? ⟨w.heap.size, 3, none⟩ = some (.bool true) := (hc1 (w.heap.size) 3 (by first | omega | (simp <;> omega))).trans (by first | (simp; done) | (simp [*]; done) | (simp [*, World.cell?_alloc_at, World.cell?_alloc_past, World.cell?_alloc_lt, lt2, lt3, lt4]; done))
      go_wp2_with fail
      (with_reducible refine (HL.out _).mono ?_)
      rintro e w2 ⟨rfl, b2⟩
      have hz2 := b2.size
      obtain ⟨hc2, hf2⟩ := bcell b2
      have B2 : Below w.heap.size w w2 := Below.trans (by repeat (first | (with_reducible refine Below.drew ?_) | (with_reducible refine below_drewN ?_ _) | (with_reducible refine Below.alloc ?_ ?_ _) | (with_reducible refine Below.setCell ?_ ?_ _) | (with_reducible assumption) | (with_reducible exact Below.refl _ _) | omega | (simp <;> omega))) (b2.mono (by first | omega | (simp <;> omega)))
      (try simp at hz2)
      have hy2 : w.heap.size < w2.heap.size := by omega
      clear b2
      go_wp2
      go_ret
      exact ⟨rfl, (by repeat (first | (with_reducible refine Below.drew ?_) | (with_reducible refine below_drewN ?_ _) | (with_reducible refine Below.alloc ?_ ?_ _) | (with_reducible refine Below.setCell ?_ ?_ _) | (with_reducible assumption) | (with_reducible exact Below.refl _ _) | omega | (simp <;> omega)))⟩
set_option maxRecDepth 100000 in
set_option maxHeartbeats 1000000 in
theorem sStateText (s l j : Int) (o : Bool) (w : World) : Calls Tryd.prog 5 #[.agg #[.int .i64 s, .int .i64 l, .int .i64 j, .bool o]] w (Gives (.string (stateS s l j o)) w) := by
  have hV := fun W => sStateValid s l j o W
  cases h : levelOk s l j
  · rw [h] at hV
    have HV := Lib.hid hV
    have HL := Lib.hid (fun W => sLevelText_no s l j h W)
    rw [stateS_no h]
    clear hV h
    cases o
    · go_enter Tryd.func5, Tryd.ntmps5
      go_wp2_with fail
      (with_reducible refine (HL.out _).mono ?_)
      rintro e w1 ⟨rfl, b1⟩
      have hz1 := b1.size
      obtain ⟨hc1, hf1⟩ := bcell b1
      have B1 : Below w.heap.size w w1 := Below.trans (by repeat (first | (with_reducible refine Below.drew ?_) | (with_reducible refine below_drewN ?_ _) | (with_reducible refine Below.alloc ?_ ?_ _) | (with_reducible refine Below.setCell ?_ ?_ _) | (with_reducible assumption) | (with_reducible exact Below.refl _ _) | omega | (simp <;> omega))) (b1.mono (by first | omega | (simp <;> omega)))
      (try simp at hz1)
      have hy1 : w.heap.size < w1.heap.size := by omega
      clear b1
      go_wp2
      go_ret
      exact ⟨rfl, (by repeat (first | (with_reducible refine Below.drew ?_) | (with_reducible refine below_drewN ?_ _) | (with_reducible refine Below.alloc ?_ ?_ _) | (with_reducible refine Below.setCell ?_ ?_ _) | (with_reducible assumption) | (with_reducible exact Below.refl _ _) | omega | (simp <;> omega)))⟩
    · go_enter Tryd.func5, Tryd.ntmps5
      go_wp2_with fail
      (with_reducible refine (HV.out _).mono ?_)
      rintro e w1 ⟨rfl, b1⟩
      have hz1 := b1.size
      obtain ⟨hc1, hf1⟩ := bcell b1
      have B1 : Below w.heap.size w w1 := Below.trans (by repeat (first | (with_reducible refine Below.drew ?_) | (with_reducible refine below_drewN ?_ _) | (with_reducible refine Below.alloc ?_ ?_ _) | (with_reducible refine Below.setCell ?_ ?_ _) | (with_reducible assumption) | (with_reducible exact Below.refl _ _) | omega | (simp <;> omega))) (b1.mono (by first | omega | (simp <;> omega)))
      (try simp at hz1)
      have hy1 : w.heap.size < w1.heap.size := by omega
      clear b1
      have kc1_0_0 : w1.cell? ⟨w.heap.size, 0, none⟩ = some (.int .i64 s) := (hc1 (w.heap.size) 0 (by first | omega | (simp <;> omega))).trans (by first | (simp; done) | (simp [*]; done) | (simp [*, World.cell?_alloc_at, World.cell?_alloc_past, World.cell?_alloc_lt, lt2, lt3, lt4]; done))
      have kc1_1_0 : w1.cell? ⟨w.heap.size, 1, none⟩ = some (.int .i64 l) := (hc1 (w.heap.size) 1 (by first | omega | (simp <;> omega))).trans (by first | (simp; done) | (simp [*]; done) | (simp [*, World.cell?_alloc_at, World.cell?_alloc_past, World.cell?_alloc_lt, lt2, lt3, lt4]; done))
      have kc1_2_0 : w1.cell? ⟨w.heap.size, 2, none⟩ = some (.int .i64 j) := (hc1 (w.heap.size) 2 (by first | omega | (simp <;> omega))).trans (by first | (simp; done) | (simp [*]; done) | (simp [*, World.cell?_alloc_at, World.cell?_alloc_past, World.cell?_alloc_lt, lt2, lt3, lt4]; done))
      have kc1_3_0 : w1.cell? ⟨w.heap.size, 3, none⟩ = some (.bool true) := (hc1 (w.heap.size) 3 (by first | omega | (simp <;> omega))).trans (by first | (simp; done) | (simp [*]; done) | (simp [*, World.cell?_alloc_at, World.cell?_alloc_past, World.cell?_alloc_lt, lt2, lt3, lt4]; done))
      go_wp2_with fail
      (with_reducible refine (HL.out _).mono ?_)
      rintro e w2 ⟨rfl, b2⟩
      have hz2 := b2.size
      obtain ⟨hc2, hf2⟩ := bcell b2
      have B2 : Below w.heap.size w w2 := Below.trans (by repeat (first | (with_reducible refine Below.drew ?_) | (with_reducible refine below_drewN ?_ _) | (with_reducible refine Below.alloc ?_ ?_ _) | (with_reducible refine Below.setCell ?_ ?_ _) | (with_reducible assumption) | (with_reducible exact Below.refl _ _) | omega | (simp <;> omega))) (b2.mono (by first | omega | (simp <;> omega)))
      (try simp at hz2)
      have hy2 : w.heap.size < w2.heap.size := by omega
      clear b2
      go_wp2
      go_ret
      exact ⟨rfl, (by repeat (first | (with_reducible refine Below.drew ?_) | (with_reducible refine below_drewN ?_ _) | (with_reducible refine Below.alloc ?_ ?_ _) | (with_reducible refine Below.setCell ?_ ?_ _) | (with_reducible assumption) | (with_reducible exact Below.refl _ _) | omega | (simp <;> omega)))⟩
  · rw [h] at hV
    have HV := Lib.hid hV
    obtain ⟨a, b, c, rfl, rfl, rfl, ha, hb, hc⟩ := level_nat h
    have HL := Lib.hid (fun W => sLevelText a b c h ha hb hc W)
    have hz := levelS_size a b c ha hb hc
    cases o
    · rw [stateS_even h]
      clear hV h hz
      generalize levelS a b c = A at *
      go_enter Tryd.func5, Tryd.ntmps5
      go_wp2_with fail
      (with_reducible refine (HL.out _).mono ?_)
      rintro e w1 ⟨rfl, b1⟩
      have hz1 := b1.size
      obtain ⟨hc1, hf1⟩ := bcell b1
      have B1 : Below w.heap.size w w1 := Below.trans (by repeat (first | (with_reducible refine Below.drew ?_) | (with_reducible refine below_drewN ?_ _) | (with_reducible refine Below.alloc ?_ ?_ _) | (with_reducible refine Below.setCell ?_ ?_ _) | (with_reducible assumption) | (with_reducible exact Below.refl _ _) | omega | (simp <;> omega))) (b1.mono (by first | omega | (simp <;> omega)))
      (try simp at hz1)
      have hy1 : w.heap.size < w1.heap.size := by omega
      clear b1
      go_wp2
      go_ret
      exact ⟨rfl, (by repeat (first | (with_reducible refine Below.drew ?_) | (with_reducible refine below_drewN ?_ _) | (with_reducible refine Below.alloc ?_ ?_ _) | (with_reducible refine Below.setCell ?_ ?_ _) | (with_reducible assumption) | (with_reducible exact Below.refl _ _) | omega | (simp <;> omega)))⟩
    · rw [stateS_odd h]
      have hsz := fits (a := levelS a b c) (b := ⟨#[111]⟩) (n := 10) (by rw [o_size]; omega) (by omega)
      have hsz2 : (9223372036854775807 < (levelS a b c).size + 1) = False := by simp; omega
      have hsz3 : (levelS a b c).size ≤ 7 := hz.2
      clear hV h hz
      generalize levelS a b c = A at *
      go_enter Tryd.func5, Tryd.ntmps5
      go_wp2_with fail
      (with_reducible refine (HV.out _).mono ?_)
      rintro e w1 ⟨rfl, b1⟩
      have hz1 := b1.size
      obtain ⟨hc1, hf1⟩ := bcell b1
      have B1 : Below w.heap.size w w1 := Below.trans (by repeat (first | (with_reducible refine Below.drew ?_) | (with_reducible refine below_drewN ?_ _) | (with_reducible refine Below.alloc ?_ ?_ _) | (with_reducible refine Below.setCell ?_ ?_ _) | (with_reducible assumption) | (with_reducible exact Below.refl _ _) | omega | (simp <;> omega))) (b1.mono (by first | omega | (simp <;> omega)))
      (try simp at hz1)
      have hy1 : w.heap.size < w1.heap.size := by omega
      clear b1
      have kc1_0_0 : w1.cell? ⟨w.heap.size, 0, none⟩ = some (.int .i64 a) := (hc1 (w.heap.size) 0 (by first | omega | (simp <;> omega))).trans (by first | (simp; done) | (simp [*]; done) | (simp [*, World.cell?_alloc_at, World.cell?_alloc_past, World.cell?_alloc_lt, lt2, lt3, lt4]; done))
      have kc1_1_0 : w1.cell? ⟨w.heap.size, 1, none⟩ = some (.int .i64 b) := (hc1 (w.heap.size) 1 (by first | omega | (simp <;> omega))).trans (by first | (simp; done) | (simp [*]; done) | (simp [*, World.cell?_alloc_at, World.cell?_alloc_past, World.cell?_alloc_lt, lt2, lt3, lt4]; done))
      have kc1_2_0 : w1.cell? ⟨w.heap.size, 2, none⟩ = some (.int .i64 c) := (hc1 (w.heap.size) 2 (by first | omega | (simp <;> omega))).trans (by first | (simp; done) | (simp [*]; done) | (simp [*, World.cell?_alloc_at, World.cell?_alloc_past, World.cell?_alloc_lt, lt2, lt3, lt4]; done))
      have kc1_3_0 : w1.cell? ⟨w.heap.size, 3, none⟩ = some (.bool true) := (hc1 (w.heap.size) 3 (by first | omega | (simp <;> omega))).trans (by first | (simp; done) | (simp [*]; done) | (simp [*, World.cell?_alloc_at, World.cell?_alloc_past, World.cell?_alloc_lt, lt2, lt3, lt4]; done))
      go_wp2_with fail
      (with_reducible refine (HL.out _).mono ?_)
      rintro e w2 ⟨rfl, b2⟩
      have hz2 := b2.size
      obtain ⟨hc2, hf2⟩ := bcell b2
      have B2 : Below w.heap.size w w2 := Below.trans (by repeat (first | (with_reducible refine Below.drew ?_) | (with_reducible refine below_drewN ?_ _) | (with_reducible refine Below.alloc ?_ ?_ _) | (with_reducible refine Below.setCell ?_ ?_ _) | (with_reducible assumption) | (with_reducible exact Below.refl _ _) | omega | (simp <;> omega))) (b2.mono (by first | omega | (simp <;> omega)))
      (try simp at hz2)
      have hy2 : w.heap.size < w2.heap.size := by omega
      clear b2
      go_wp2
      go_ret
      exact ⟨rfl, (by repeat (first | (with_reducible refine Below.drew ?_) | (with_reducible refine below_drewN ?_ _) | (with_reducible refine Below.alloc ?_ ?_ _) | (with_reducible refine Below.setCell ?_ ?_ _) | (with_reducible assumption) | (with_reducible exact Below.refl _ _) | omega | (simp <;> omega)))⟩
end Go.Proofs.YtdjjfdgdmdcbaaaDoor.TextF
