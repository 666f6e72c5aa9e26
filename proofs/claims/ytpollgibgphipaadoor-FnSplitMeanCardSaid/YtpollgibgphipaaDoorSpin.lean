/-
  Contracts of the functions on spins, terms and levels, the program's and the reference's.
-/
import Derived.Test.YtpollgibgphipaaDoorChecked
import Derived.WalkKit
import Derived.ProofKit
import Derived.Lib.Hide
import Derived.WalkSmall
import Derived.OneCell
namespace Go.Proofs.YtpollgibgphipaaDoor.Spin
open Go.RowKit
set_option linter.unusedVariables false
set_option linter.unusedSimpArgs false

theorem ret_int {k : IntKind} {a b : Int} (h : a = b) : Ending.returned (.int k a) = .returned (.int k b) := by rw [h]
theorem ret_bool {a b : Bool} (h : a = b) : Ending.returned (.bool a) = .returned (.bool b) := by rw [h]

/-- returns v; what was there is as it was -/
def Gives (v : Value) (w : World) (e : Ending) (w' : World) : Prop := e = .returned v ∧ Below w.heap.size w w'

theorem bcell {W w1 : World} (hb : Below W.heap.size W w1) : (∀ b o, b < W.heap.size → w1.cell? ⟨b, o, none⟩ = W.cell? ⟨b, o, none⟩) ∧ (∀ b o, b < W.heap.size → w1.frozen? ⟨b, o, none⟩ = W.frozen? ⟨b, o, none⟩) :=
  ⟨fun b o h => hb.cell (p := ⟨b, o, none⟩) h, fun b o h => hb.frozen (p := ⟨b, o, none⟩) h⟩

def inB (n lo hi : Int) : Bool := decide (lo ≤ n ∧ n ≤ hi)
def spinOk (j : Int) : Bool := decide (0 ≤ j ∧ j ≤ 24)
def tri (a b c : Int) : Bool := decide ((0 ≤ a ∧ a ≤ 24) ∧ (0 ≤ b ∧ b ≤ 24) ∧ (0 ≤ c ∧ c ≤ 24) ∧ (a + b + c) % 2 = 0 ∧ a ≤ b + c ∧ b ≤ a + c ∧ c ≤ a + b)
def termOk (s l : Int) : Bool := decide ((0 ≤ s ∧ s ≤ 8) ∧ (0 ≤ l ∧ l ≤ 8))
def levelOk (s l j : Int) : Bool := termOk s l && tri (2 * l) s j
def absI (n : Int) : Int := if n < 0 then 0 - n else n

theorem inB_true {n lo hi : Int} : inB n lo hi = true ↔ lo ≤ n ∧ n ≤ hi := by simp [inB]
theorem spinOk_true {j : Int} : spinOk j = true ↔ 0 ≤ j ∧ j ≤ 24 := by simp [spinOk]
theorem termOk_true {s l : Int} : termOk s l = true ↔ (0 ≤ s ∧ s ≤ 8) ∧ (0 ≤ l ∧ l ≤ 8) := by simp [termOk]
theorem tri_true {a b c : Int} : tri a b c = true ↔ (0 ≤ a ∧ a ≤ 24) ∧ (0 ≤ b ∧ b ≤ 24) ∧ (0 ≤ c ∧ c ≤ 24) ∧ (a + b + c) % 2 = 0 ∧ a ≤ b + c ∧ b ≤ a + c ∧ c ≤ a + b := by simp [tri]
theorem false_of {b : Bool} {p : Prop} (h : b = true ↔ p) (hn : ¬ p) : b = false := by
  cases b
  · rfl
  · exact absurd (h.1 rfl) hn

theorem l6In (n lo hi : Int) (w : World) :
    Calls Tryd.prog 66 #[.int .i64 n, .int .i64 lo, .int .i64 hi] w fun e w' => e = .returned (.bool (inB n lo hi)) ∧ w = w' := by
  by_cases h1 : lo ≤ n <;> by_cases h2 : n ≤ hi
  all_goals
    go_enter Tryd.func66, Tryd.ntmps66
    go_wp2
    go_ret
    exact ⟨ret_bool (by simp [inB] <;> omega), rfl⟩

theorem l1Abs (n : Int) (w : World) (h : -9223372036854775807 ≤ n) (h2 : n ≤ 9223372036854775807) :
    Calls Tryd.prog 35 #[.int .i64 n] w fun e w' => e = .returned (.int .i64 (absI n)) ∧ w = w' := by
  by_cases h1 : n < 0
  all_goals
    go_enter Tryd.func35, Tryd.ntmps35
    go_wp2
    go_ret
    exact ⟨ret_int (by simp [absI] <;> omega), rfl⟩
theorem iabs (n : Int) (w : World) (h : -9223372036854775807 ≤ n) (h2 : n ≤ 9223372036854775807) :
    Calls Tryd.prog 29 #[.int .i64 n] w fun e w' => e = .returned (.int .i64 (absI n)) ∧ w = w' := by
  go_enter Tryd.func29, Tryd.ntmps29
  go_wp2
  all_goals go_ret
  all_goals exact ⟨ret_int (by unfold absI; split <;> omega), rfl⟩
theorem iSpinValid (j : Int) (w : World) :
    Calls Tryd.prog 46 #[.int .i64 j] w fun e w' => e = .returned (.bool (spinOk j)) ∧ w = w' := by
  by_cases h1 : 0 ≤ j <;> by_cases h2 : j ≤ 24
  all_goals
    go_enter Tryd.func46, Tryd.ntmps46
    go_wp2
    go_ret
    exact ⟨ret_bool (by simp [spinOk] <;> omega), rfl⟩
theorem sSpinValid (j : Int) (w : World) :
    Calls Tryd.prog 55 #[.int .i64 j] w fun e w' => e = .returned (.bool (spinOk j)) ∧ w = w' := by
  go_enter Tryd.func55, Tryd.ntmps55
  go_wp2_with (go_at_call 66; refine (l6In _ _ _ _).mono ?_; rintro e w' ⟨rfl, rfl⟩)
  go_ret
  exact ⟨ret_bool (by simp [spinOk, inB]), rfl⟩

theorem tri_cases (a b c : Int) : (spinOk a = false ∧ tri a b c = false) ∨ (spinOk a = true ∧ spinOk b = false ∧ tri a b c = false) ∨ (spinOk a = true ∧ spinOk b = true ∧ spinOk c = false ∧ tri a b c = false) ∨
    (spinOk a = true ∧ spinOk b = true ∧ spinOk c = true ∧ (0 ≤ a ∧ a ≤ 24) ∧ (0 ≤ b ∧ b ≤ 24) ∧ (0 ≤ c ∧ c ≤ 24) ∧
      ((((a + b + c) % 2 == 0) = false ∧ ((a + b + c) % 2 != 0) = true ∧ tri a b c = false) ∨ (((a + b + c) % 2 == 0) = true ∧ ((a + b + c) % 2 != 0) = false ∧
        ((decide (a ≤ b + c) = false ∧ tri a b c = false) ∨ (decide (a ≤ b + c) = true ∧ ((decide (b ≤ a + c) = false ∧ tri a b c = false) ∨ (decide (b ≤ a + c) = true ∧ tri a b c = decide (c ≤ a + b)))))))) := by
  by_cases ha : spinOk a = true
  · by_cases hb : spinOk b = true
    · by_cases hc : spinOk c = true
      · refine .inr (.inr (.inr ⟨ha, hb, hc, spinOk_true.1 ha, spinOk_true.1 hb, spinOk_true.1 hc, ?_⟩))
        have ha' := spinOk_true.1 ha
        have hb' := spinOk_true.1 hb
        have hc' := spinOk_true.1 hc
        by_cases h2 : (a + b + c) % 2 = 0
        · refine .inr ⟨by simpa using h2, by simpa using h2, ?_⟩
          by_cases h3 : a ≤ b + c
          · refine .inr ⟨by simpa using h3, ?_⟩
            by_cases h4 : b ≤ a + c
            · exact .inr ⟨by simpa using h4, decide_eq_decide.2 ⟨fun h => h.2.2.2.2.2.2, fun h => ⟨ha', hb', hc', h2, h3, h4, h⟩⟩⟩
            · exact .inl ⟨by simpa using h4, by simp [tri]; omega⟩
          · exact .inl ⟨by simpa using h3, by simp [tri]; omega⟩
        · exact .inl ⟨by simpa using h2, by simpa using h2, by simp [tri]; omega⟩
      · exact .inr (.inr (.inl ⟨ha, hb, by simpa using hc, false_of tri_true fun h => hc (spinOk_true.2 h.2.2.1)⟩))
    · exact .inr (.inl ⟨ha, by simpa using hb, false_of tri_true fun h => hb (spinOk_true.2 h.2.1)⟩)
  · exact .inl ⟨by simpa using ha, false_of tri_true fun h => ha (spinOk_true.2 h.1)⟩

set_option maxRecDepth 100000 in
set_option maxHeartbeats 1000000 in
theorem iSpinTriangle (a b c : Int) (w : World) :
    Calls Tryd.prog 26 #[.int .i64 a, .int .i64 b, .int .i64 c] w fun e w' => e = .returned (.bool (tri a b c)) ∧ w = w' := by
  rcases tri_cases a b c with ⟨h1, ht⟩ | ⟨h1, h2, ht⟩ | ⟨h1, h2, h3, ht⟩ | ⟨h1, h2, h3, ⟨_, _⟩, ⟨_, _⟩, ⟨_, _⟩, ⟨h4, _, ht⟩ | ⟨h4, _, ⟨h5, ht⟩ | ⟨h5, ⟨h6, ht⟩ | ⟨h6, ht⟩⟩⟩⟩
  all_goals
    have HT := Lib.hid ht
    clear ht
    go_enter Tryd.func26, Tryd.ntmps26
    go_wp2_with (go_at_call 46; refine (iSpinValid _ _).mono ?_; rintro e w' ⟨rfl, rfl⟩)
    go_ret
    exact ⟨ret_bool HT.out.symm, rfl⟩
set_option maxRecDepth 100000 in
set_option maxHeartbeats 1000000 in
theorem sSpinTriangle (a b c : Int) (w : World) :
    Calls Tryd.prog 33 #[.int .i64 a, .int .i64 b, .int .i64 c] w fun e w' => e = .returned (.bool (tri a b c)) ∧ w = w' := by
  rcases tri_cases a b c with ⟨h1, ht⟩ | ⟨h1, h2, ht⟩ | ⟨h1, h2, h3, ht⟩ | ⟨h1, h2, h3, ⟨_, _⟩, ⟨_, _⟩, ⟨_, _⟩, ⟨_, h4, ht⟩ | ⟨_, h4, ⟨h5, ht⟩ | ⟨h5, ⟨h6, ht⟩ | ⟨h6, ht⟩⟩⟩⟩
  all_goals
    have HT := Lib.hid ht
    clear ht
    go_enter Tryd.func33, Tryd.ntmps33
    go_wp2_with (go_at_call 55; refine (sSpinValid _ _).mono ?_; rintro e w' ⟨rfl, rfl⟩)
    go_ret
    exact ⟨ret_bool HT.out.symm, rfl⟩

theorem term_cases (s l : Int) : (0 ≤ s ∧ s ≤ 8 ∧ 0 ≤ l ∧ l ≤ 8 ∧ termOk s l = true) ∨ (0 ≤ s ∧ s ≤ 8 ∧ 0 ≤ l ∧ 8 < l ∧ termOk s l = false) ∨ (0 ≤ s ∧ s ≤ 8 ∧ l < 0 ∧ termOk s l = false) ∨ (0 ≤ s ∧ 8 < s ∧ termOk s l = false) ∨ (s < 0 ∧ termOk s l = false) := by
  by_cases h1 : 0 ≤ s
  · by_cases h2 : s ≤ 8
    · by_cases h3 : 0 ≤ l
      · by_cases h4 : l ≤ 8
        · exact .inl ⟨h1, h2, h3, h4, by simp [termOk]; omega⟩
        · exact .inr (.inl ⟨h1, h2, h3, by omega, by simp [termOk]; omega⟩)
      · exact .inr (.inr (.inl ⟨h1, h2, by omega, by simp [termOk]; omega⟩))
    · exact .inr (.inr (.inr (.inl ⟨h1, by omega, by simp [termOk]; omega⟩)))
  · exact .inr (.inr (.inr (.inr ⟨by omega, by simp [termOk]; omega⟩)))

theorem iTermValid (s l : Int) (w : World) :
    Calls Tryd.prog 45 #[.agg #[.int .i64 s, .int .i64 l]] w (Gives (.bool (termOk s l)) w) := by
  rcases term_cases s l with ⟨_, _, _, _, ht⟩ | ⟨_, _, _, _, ht⟩ | ⟨_, _, _, ht⟩ | ⟨_, _, ht⟩ | ⟨_, ht⟩
  all_goals
    have HT := Lib.hid ht
    clear ht
    go_enter Tryd.func45, Tryd.ntmps45
    go_wp2
    go_ret
    exact ⟨ret_bool (by first | (rw [HT.out]; done) | (rw [HT.out]; simp; done) | (rw [HT.out]; simp; omega)), (Below.refl _ _).alloc (Nat.le_refl _) _⟩
theorem sTermValid (s l : Int) (w : World) :
    Calls Tryd.prog 54 #[.agg #[.int .i64 s, .int .i64 l]] w (Gives (.bool (termOk s l)) w) := by
  by_cases h1 : inB s 0 8 = true
  · go_enter Tryd.func54, Tryd.ntmps54
    go_wp2_with (go_at_call 66; refine (l6In _ _ _ _).mono ?_; rintro e w' ⟨rfl, rfl⟩)
    go_ret
    exact ⟨ret_bool (by simp [inB] at h1; simp [termOk, inB]; omega), (Below.refl _ _).alloc (Nat.le_refl _) _⟩
  · have h1' : inB s 0 8 = false := by simpa using h1
    clear h1
    go_enter Tryd.func54, Tryd.ntmps54
    go_wp2_with (go_at_call 66; refine (l6In _ _ _ _).mono ?_; rintro e w' ⟨rfl, rfl⟩)
    go_ret
    exact ⟨ret_bool (by simp [inB] at h1'; simp [termOk]; omega), (Below.refl _ _).alloc (Nat.le_refl _) _⟩

theorem levelOk_t {s l j : Int} (h : termOk s l = true) : levelOk s l j = tri (2 * l) s j := by simp [levelOk, h]
theorem levelOk_f {s l j : Int} (h : termOk s l = false) : levelOk s l j = false := by simp [levelOk, h]

theorem iLevelValid (s l j : Int) (w : World) :
    Calls Tryd.prog 25 #[.agg #[.int .i64 s, .int .i64 l, .int .i64 j]] w (Gives (.bool (levelOk s l j)) w) := by
  by_cases h1 : termOk s l = true
  · have hb := termOk_true.1 h1
    have HL := Lib.hid (levelOk_t (j := j) h1)
    go_enter Tryd.func25, Tryd.ntmps25
    go_wp2_with fail
    with_reducible refine (iTermValid _ _ _).mono ?_
    rintro e w1 ⟨rfl, b1⟩
    have b2 := ((Below.refl w.heap.size w).alloc (Nat.le_refl _) _).trans (b1.mono (by simp))
    obtain ⟨hc, hf⟩ := bcell b1
    clear b1
    go_wp2_with fail
    with_reducible refine (iSpinTriangle _ _ _ _).mono ?_
    rintro e w2 ⟨rfl, rfl⟩
    go_wp2
    go_ret
    exact ⟨ret_bool HL.out.symm, b2⟩
  · have h1' : termOk s l = false := by simpa using h1
    clear h1
    have HL := Lib.hid (levelOk_f (j := j) h1')
    go_enter Tryd.func25, Tryd.ntmps25
    go_wp2_with fail
    with_reducible refine (iTermValid _ _ _).mono ?_
    rintro e w1 ⟨rfl, b1⟩
    have b2 := ((Below.refl w.heap.size w).alloc (Nat.le_refl _) _).trans (b1.mono (by simp))
    clear b1
    go_wp2
    go_ret
    exact ⟨ret_bool HL.out.symm, b2⟩
theorem sLevelValid (s l j : Int) (w : World) :
    Calls Tryd.prog 32 #[.agg #[.int .i64 s, .int .i64 l, .int .i64 j]] w (Gives (.bool (levelOk s l j)) w) := by
  by_cases h1 : termOk s l = true
  · have hb := termOk_true.1 h1
    have HL := Lib.hid (levelOk_t (j := j) h1)
    go_enter Tryd.func32, Tryd.ntmps32
    go_wp2_with fail
    with_reducible refine (sTermValid _ _ _).mono ?_
    rintro e w1 ⟨rfl, b1⟩
    have b2 := ((Below.refl w.heap.size w).alloc (Nat.le_refl _) _).trans (b1.mono (by simp))
    obtain ⟨hc, hf⟩ := bcell b1
    clear b1
    go_wp2_with fail
    with_reducible refine (sSpinTriangle _ _ _ _).mono ?_
    rintro e w2 ⟨rfl, rfl⟩
    go_wp2
    go_ret
    exact ⟨ret_bool HL.out.symm, b2⟩
  · have h1' : termOk s l = false := by simpa using h1
    clear h1
    have HL := Lib.hid (levelOk_f (j := j) h1')
    go_enter Tryd.func32, Tryd.ntmps32
    go_wp2_with fail
    with_reducible refine (sTermValid _ _ _).mono ?_
    rintro e w1 ⟨rfl, b1⟩
    have b2 := ((Below.refl w.heap.size w).alloc (Nat.le_refl _) _).trans (b1.mono (by simp))
    clear b1
    go_wp2
    go_ret
    exact ⟨ret_bool HL.out.symm, b2⟩

end Go.Proofs.YtpollgibgphipaaDoor.Spin
