/-
  Contracts of StateAllowed, the program's and the reference's.
-/
import Derived.Test.YthinhhfegflmmaaSpin
import Derived.BigGuardPart
namespace Go.Proofs.Ythinhhfegflmmaa.Allowed
open Go.RowKit Go.Proofs.Ythinhhfegflmmaa.Spin
set_option linter.unusedVariables false
set_option linter.unusedSimpArgs false

/-- two angular momenta differ by at most a step and are not both 0 -/
def nearB (a b m : Int) : Bool := decide (absI (a - b) ≤ m ∧ (a ≠ 0 ∨ b ≠ 0))
theorem nearB_true {a b m : Int} : nearB a b m = true ↔ absI (a - b) ≤ m ∧ (a ≠ 0 ∨ b ≠ 0) := by simp [nearB]

theorem near_cases (a b m : Int) : (decide (absI (a - b) ≤ m) = false ∧ nearB a b m = false) ∨ (decide (absI (a - b) ≤ m) = true ∧ (((a != 0) = true ∧ nearB a b m = true) ∨ ((a != 0) = false ∧ nearB a b m = (b != 0)))) := by
  by_cases h1 : absI (a - b) ≤ m
  · refine .inr ⟨by simpa using h1, ?_⟩
    by_cases h2 : a = 0
    · exact .inr ⟨by simp [h2], by simp [nearB, h2]; rw [h2] at h1; simp at h1; simp [h1]; by_cases hb : b = 0 <;> simp [hb]⟩
    · exact .inl ⟨by simp [h2], by simp [nearB, h1, h2]⟩
  · exact .inl ⟨by simpa using h1, by simp [nearB, h1]⟩

theorem stepsBy (a b m : Int) (w : World) (a0 : 0 ≤ a) (a1 : a ≤ 1000) (b0 : 0 ≤ b) (b1 : b ≤ 1000) :
    Calls Try.prog 65 #[.int .i64 a, .int .i64 b, .int .i64 m] w fun e w' => e = .returned (.bool (nearB a b m)) ∧ w = w' := by
  rcases near_cases a b m with ⟨h1, ht⟩ | ⟨h1, ⟨h2, ht⟩ | ⟨h2, ht⟩⟩
  all_goals
    have HT := Lib.hid ht
    clear ht
    go_enter Try.func65, Try.ntmps65
    go_wp2_with fail
    (with_reducible refine (iabs _ _ (by omega) (by omega)).mono ?_)
    rintro e w' ⟨rfl, rfl⟩
    go_wp2
    go_ret
    exact ⟨ret_bool HT.out.symm, rfl⟩
theorem l25Near (a b m : Int) (w : World) (a0 : 0 ≤ a) (a1 : a ≤ 1000) (b0 : 0 ≤ b) (b1 : b ≤ 1000) :
    Calls Try.prog 44 #[.int .i64 a, .int .i64 b, .int .i64 m] w fun e w' => e = .returned (.bool (nearB a b m)) ∧ w = w' := by
  rcases near_cases a b m with ⟨h1, ht⟩ | ⟨h1, ⟨h2, ht⟩ | ⟨h2, ht⟩⟩
  all_goals
    have HT := Lib.hid ht
    clear ht
    go_enter Try.func44, Try.ntmps44
    go_wp2_with fail
    (with_reducible refine (l1Abs _ _ (by omega) (by omega)).mono ?_)
    rintro e w' ⟨rfl, rfl⟩
    go_wp2
    go_ret
    exact ⟨ret_bool HT.out.symm, rfl⟩

theorem parityChanges (s1 l1 j1 : Int) (o1 : Bool) (s2 l2 j2 : Int) (o2 : Bool) (w : World) :
    Calls Try.prog 39 #[.agg #[.int .i64 s1, .int .i64 l1, .int .i64 j1, .bool o1], .agg #[.int .i64 s2, .int .i64 l2, .int .i64 j2, .bool o2]] w (Gives (.bool (o1 != o2)) w) := by
  go_enter Try.func39, Try.ntmps39
  go_wp2
  go_ret
  exact ⟨rfl, (by repeat (first | (with_reducible refine Below.drew ?_) | (with_reducible refine below_drewN ?_ _) | (with_reducible refine Below.alloc ?_ ?_ _) | (with_reducible refine Below.setCell ?_ ?_ _) | (with_reducible assumption) | (with_reducible exact Below.refl _ _) | omega | (simp <;> omega)))⟩

theorem spinStays (s1 l1 j1 : Int) (o1 : Bool) (s2 l2 j2 : Int) (o2 : Bool) (w : World) :
    Calls Try.prog 40 #[.agg #[.int .i64 s1, .int .i64 l1, .int .i64 j1, .bool o1], .agg #[.int .i64 s2, .int .i64 l2, .int .i64 j2, .bool o2]] w (Gives (.bool (s1 == s2)) w) := by
  go_enter Try.func40, Try.ntmps40
  go_wp2
  go_ret
  exact ⟨rfl, (by repeat (first | (with_reducible refine Below.drew ?_) | (with_reducible refine below_drewN ?_ _) | (with_reducible refine Below.alloc ?_ ?_ _) | (with_reducible refine Below.setCell ?_ ?_ _) | (with_reducible assumption) | (with_reducible exact Below.refl _ _) | omega | (simp <;> omega)))⟩

theorem orbitSteps (s1 l1 j1 : Int) (o1 : Bool) (s2 l2 j2 : Int) (o2 : Bool) (w : World) (a0 : 0 ≤ l1) (a1 : l1 ≤ 1000) (b0 : 0 ≤ l2) (b1 : l2 ≤ 1000) :
    Calls Try.prog 41 #[.agg #[.int .i64 s1, .int .i64 l1, .int .i64 j1, .bool o1], .agg #[.int .i64 s2, .int .i64 l2, .int .i64 j2, .bool o2]] w (Gives (.bool (nearB l1 l2 1)) w) := by
  go_enter Try.func41, Try.ntmps41
  go_wp2_with fail
  (with_reducible refine (stepsBy _ _ _ _ a0 a1 b0 b1).mono ?_)
  rintro e w' ⟨rfl, rfl⟩
  go_wp2
  go_ret
  exact ⟨rfl, (by repeat (first | (with_reducible refine Below.drew ?_) | (with_reducible refine below_drewN ?_ _) | (with_reducible refine Below.alloc ?_ ?_ _) | (with_reducible refine Below.setCell ?_ ?_ _) | (with_reducible assumption) | (with_reducible exact Below.refl _ _) | omega | (simp <;> omega)))⟩

theorem totalSteps (s1 l1 j1 : Int) (o1 : Bool) (s2 l2 j2 : Int) (o2 : Bool) (w : World) (a0 : 0 ≤ j1) (a1 : j1 ≤ 1000) (b0 : 0 ≤ j2) (b1 : j2 ≤ 1000) :
    Calls Try.prog 42 #[.agg #[.int .i64 s1, .int .i64 l1, .int .i64 j1, .bool o1], .agg #[.int .i64 s2, .int .i64 l2, .int .i64 j2, .bool o2]] w (Gives (.bool (nearB j1 j2 2)) w) := by
  go_enter Try.func42, Try.ntmps42
  go_wp2_with fail
  (with_reducible refine (stepsBy _ _ _ _ a0 a1 b0 b1).mono ?_)
  rintro e w' ⟨rfl, rfl⟩
  go_wp2
  go_ret
  exact ⟨rfl, (by repeat (first | (with_reducible refine Below.drew ?_) | (with_reducible refine below_drewN ?_ _) | (with_reducible refine Below.alloc ?_ ?_ _) | (with_reducible refine Below.setCell ?_ ?_ _) | (with_reducible assumption) | (with_reducible exact Below.refl _ _) | omega | (simp <;> omega)))⟩

def allowed (s1 l1 j1 : Int) (o1 : Bool) (s2 l2 j2 : Int) (o2 : Bool) : Bool :=
  levelOk s1 l1 j1 && levelOk s2 l2 j2 && ((o1 != o2) && (s1 == s2) && nearB l1 l2 1 && nearB j1 j2 2)
def pre4 (p0 p1 p2 p3 : Bool) : Nat → Bool
  | 0 => true
  | 1 => p0
  | 2 => p0 && p1
  | 3 => p0 && p1 && p2
  | _ => p0 && p1 && p2 && p3

theorem pre_no0 {p0 p1 p2 p3 : Bool} (h : p0 = false) : pre4 p0 p1 p2 p3 4 = false := by simp [pre4, h]
theorem pre_no1 {p0 p1 p2 p3 : Bool} (h : p1 = false) : pre4 p0 p1 p2 p3 4 = false := by simp [pre4, h]
theorem pre_no2 {p0 p1 p2 p3 : Bool} (h : p2 = false) : pre4 p0 p1 p2 p3 4 = false := by simp [pre4, h]
theorem pre_no3 {p0 p1 p2 p3 : Bool} (h : p3 = false) : pre4 p0 p1 p2 p3 4 = false := by simp [pre4, h]
theorem pre_yes0 {p0 p1 p2 p3 : Bool} (_ : pre4 p0 p1 p2 p3 0 = true) (h : p0 = true) : pre4 p0 p1 p2 p3 1 = true := by simp [pre4, h]
theorem pre_yes1 {p0 p1 p2 p3 : Bool} (g : pre4 p0 p1 p2 p3 1 = true) (h : p1 = true) : pre4 p0 p1 p2 p3 2 = true := by simp [pre4] at g ⊢; simp [g, h]
theorem pre_yes2 {p0 p1 p2 p3 : Bool} (g : pre4 p0 p1 p2 p3 2 = true) (h : p2 = true) : pre4 p0 p1 p2 p3 3 = true := by simp [pre4] at g ⊢; simp [g, h]
theorem pre_yes3 {p0 p1 p2 p3 : Bool} (g : pre4 p0 p1 p2 p3 3 = true) (h : p3 = true) : pre4 p0 p1 p2 p3 4 = true := by simp [pre4] at g ⊢; simp [g, h]

theorem levelOk_bounds {s l j : Int} (h : levelOk s l j = true) : (0 ≤ s ∧ s ≤ 8) ∧ (0 ≤ l ∧ l ≤ 8) ∧ (0 ≤ j ∧ j ≤ 24) := by
  simp [levelOk, termOk, tri] at h
  omega

/-- the four rules lie in block F -/
def Rules (F : Nat) (v : Value) (w : World) : Prop :=
  w.cell? ⟨F, 0, none⟩ = some (.func (.func 39) #[v] #[]) ∧ w.cell? ⟨F, 1, none⟩ = some (.func (.func 40) #[v] #[]) ∧ w.cell? ⟨F, 2, none⟩ = some (.func (.func 41) #[v] #[]) ∧ w.cell? ⟨F, 3, none⟩ = some (.func (.func 42) #[v] #[])
/-- four cells of block B -/
def Held (B : Nat) (a b c d : Value) (w : World) : Prop :=
  w.cell? ⟨B, 0, none⟩ = some a ∧ w.cell? ⟨B, 1, none⟩ = some b ∧ w.cell? ⟨B, 2, none⟩ = some c ∧ w.cell? ⟨B, 3, none⟩ = some d
theorem Rules.below {F : Nat} {v : Value} {w w' : World} (h : Rules F v w) (hb : Below w.heap.size w w') : Rules F v w' := by
  have hF : F < w.heap.size := World.block_lt_of_cell? _ _ h.1
  exact ⟨(hb.cell (p := ⟨F, 0, none⟩) hF).trans h.1, (hb.cell (p := ⟨F, 1, none⟩) hF).trans h.2.1, (hb.cell (p := ⟨F, 2, none⟩) hF).trans h.2.2.1, (hb.cell (p := ⟨F, 3, none⟩) hF).trans h.2.2.2⟩
theorem Held.below {B : Nat} {a b c d : Value} {w w' : World} (h : Held B a b c d w) (hb : Below w.heap.size w w') : Held B a b c d w' := by
  have hF : B < w.heap.size := World.block_lt_of_cell? _ _ h.1
  exact ⟨(hb.cell (p := ⟨B, 0, none⟩) hF).trans h.1, (hb.cell (p := ⟨B, 1, none⟩) hF).trans h.2.1, (hb.cell (p := ⟨B, 2, none⟩) hF).trans h.2.2.1, (hb.cell (p := ⟨B, 3, none⟩) hF).trans h.2.2.2⟩

set_option maxRecDepth 100000 in
set_option maxHeartbeats 4000000 in
theorem iStateAllowed (s1 l1 j1 : Int) (o1 : Bool) (s2 l2 j2 : Int) (o2 : Bool) (w : World) :
    Calls Try.prog 19 #[.agg #[.int .i64 s1, .int .i64 l1, .int .i64 j1, .bool o1], .agg #[.int .i64 s2, .int .i64 l2, .int .i64 j2, .bool o2]] w (Gives (.bool (allowed s1 l1 j1 o1 s2 l2 j2 o2)) w) := by
  by_cases h1 : levelOk s1 l1 j1 = true
  · by_cases h2 : levelOk s2 l2 j2 = true
    · have ha : allowed s1 l1 j1 o1 s2 l2 j2 o2 = pre4 (o1 != o2) (s1 == s2) (nearB l1 l2 1) (nearB j1 j2 2) 4 := by simp [allowed, pre4, h1, h2]
      have HA := Lib.hid ha
      clear ha
      have q1 := levelOk_bounds h1
      have q2 := levelOk_bounds h2
      go_enter Try.func19, Try.ntmps19
      go_wp2_with fail
      (with_reducible refine (iStateValid _ _ _ _ _).mono ?_)
      rintro e w1 ⟨rfl, b1⟩
      have hz1 := b1.size
      obtain ⟨hc1, hf1⟩ := bcell b1
      have B1 : Below w.heap.size w w1 := Below.trans (by repeat (first | (with_reducible refine Below.drew ?_) | (with_reducible refine below_drewN ?_ _) | (with_reducible refine Below.alloc ?_ ?_ _) | (with_reducible refine Below.setCell ?_ ?_ _) | (with_reducible assumption) | (with_reducible exact Below.refl _ _) | omega | (simp <;> omega))) (b1.mono (by first | omega | (simp <;> omega)))
      (try simp at hz1)
      have hy1 : w.heap.size < w1.heap.size := by omega
      clear b1
      go_wp2_with fail
      (with_reducible refine (iStateValid _ _ _ _ _).mono ?_)
      rintro e w2 ⟨rfl, b2⟩
      have hz2 := b2.size
      obtain ⟨hc2, hf2⟩ := bcell b2
      have B2 : Below w.heap.size w w2 := Below.trans (by repeat (first | (with_reducible refine Below.drew ?_) | (with_reducible refine below_drewN ?_ _) | (with_reducible refine Below.alloc ?_ ?_ _) | (with_reducible refine Below.setCell ?_ ?_ _) | (with_reducible assumption) | (with_reducible exact Below.refl _ _) | omega | (simp <;> omega))) (b2.mono (by first | omega | (simp <;> omega)))
      (try simp at hz2)
      have hy2 : w.heap.size < w2.heap.size := by omega
      clear b2
      go_wp2
      have hr0 : Rules w2.heap.size (.agg #[.int .i64 s1, .int .i64 l1, .int .i64 j1, .bool o1]) (w2.alloc (.cells #[.func (.func 39) #[(.agg #[.int .i64 s1, .int .i64 l1, .int .i64 j1, .bool o1])] #[], .func (.func 40) #[(.agg #[.int .i64 s1, .int .i64 l1, .int .i64 j1, .bool o1])] #[], .func (.func 41) #[(.agg #[.int .i64 s1, .int .i64 l1, .int .i64 j1, .bool o1])] #[], .func (.func 42) #[(.agg #[.int .i64 s1, .int .i64 l1, .int .i64 j1, .bool o1])] #[]] 62)) := ⟨by simp, by simp, by simp, by simp⟩
      have hx : w.heap.size + 1 < w1.heap.size := by omega
      have hh0 : Held (w.heap.size + 1) (.int .i64 s2) (.int .i64 l2) (.int .i64 j2) (.bool o2) w2 := ⟨by simp [hc1, hc2, hx], by simp [hc1, hc2, hx], by simp [hc1, hc2, hx], by simp [hc1, hc2, hx]⟩
      have hh1 := hh0.below ((Below.refl _ _).alloc (Nat.le_refl _) (.cells #[.func (.func 39) #[(.agg #[.int .i64 s1, .int .i64 l1, .int .i64 j1, .bool o1])] #[], .func (.func 40) #[(.agg #[.int .i64 s1, .int .i64 l1, .int .i64 j1, .bool o1])] #[], .func (.func 41) #[(.agg #[.int .i64 s1, .int .i64 l1, .int .i64 j1, .bool o1])] #[], .func (.func 42) #[(.agg #[.int .i64 s1, .int .i64 l1, .int .i64 j1, .bool o1])] #[]] 62))
      clear hc1 hf1 hc2 hf2 hh0 h1 h2
      go_loopw [25] (fun i wr => ∃ k : Nat, k ≤ 4 ∧ i = .int .i64 k ∧ pre4 (o1 != o2) (s1 == s2) (nearB l1 l2 1) (nearB j1 j2 2) k = true ∧ Rules w2.heap.size (.agg #[.int .i64 s1, .int .i64 l1, .int .i64 j1, .bool o1]) wr ∧ Held (w.heap.size + 1) (.int .i64 s2) (.int .i64 l2) (.int .i64 j2) (.bool o2) wr ∧ w2.heap.size < wr.heap.size ∧ Below w.heap.size w wr) (fun i _ => 4 - (intOf i).toNat)
      case atStart => exact ⟨0, by omega, rfl, rfl, hr0, hh1, by simp, (by repeat (first | (with_reducible refine Below.drew ?_) | (with_reducible refine below_drewN ?_ _) | (with_reducible refine Below.alloc ?_ ?_ _) | (with_reducible refine Below.setCell ?_ ?_ _) | (with_reducible assumption) | (with_reducible exact Below.refl _ _) | omega | (simp <;> omega)))⟩
      case round =>
        clear hr0 hh1 hz1 hz2 hy1 hy2 hx B1 B2
        obtain ⟨k, hk, rfl, hp0, hr, hh, hz, hB⟩ := hrel
        have HP := Lib.hid hp0
        clear hp0
        have hk' : k = 0 ∨ k = 1 ∨ k = 2 ∨ k = 3 ∨ k = 4 := by omega
        clear hk
        rcases hk' with rfl | rfl | rfl | rfl | rfl
        · obtain ⟨d0, d1, d2, d3⟩ := hr
          obtain ⟨e0, e1, e2, e3⟩ := hh
          go_wp2_with fail
          (with_reducible refine (parityChanges _ _ _ _ _ _ _ _ _).mono ?_)
          rintro e w3 ⟨rfl, b3⟩
          have hr3 := Rules.below (v := (.agg #[.int .i64 s1, .int .i64 l1, .int .i64 j1, .bool o1])) ⟨d0, d1, d2, d3⟩ b3
          have hh3 := Held.below ⟨e0, e1, e2, e3⟩ b3
          have B3 := hB.trans (b3.mono hB.size)
          have z3 : w2.heap.size < w3.heap.size := Nat.lt_of_lt_of_le hz b3.size
          clear b3 hB hz d0 d1 d2 d3 e0 e1 e2 e3
          cases hp : (o1 != o2)
          · go_wp2
            go_ret
            have hf := HA.out.trans (pre_no0 hp)
            exact ⟨ret_bool hf.symm, B3⟩
          · have HQ := Lib.hid (pre_yes0 HP.out hp)
            clear HP
            go_wp2
            go_roundw
            case rel => exact ⟨1, by omega, by go_num, HQ.out, hr3, hh3, z3, B3⟩
            case measure => simp [intOf]
        · obtain ⟨d0, d1, d2, d3⟩ := hr
          obtain ⟨e0, e1, e2, e3⟩ := hh
          go_wp2_with fail
          (with_reducible refine (spinStays _ _ _ _ _ _ _ _ _).mono ?_)
          rintro e w3 ⟨rfl, b3⟩
          have hr3 := Rules.below (v := (.agg #[.int .i64 s1, .int .i64 l1, .int .i64 j1, .bool o1])) ⟨d0, d1, d2, d3⟩ b3
          have hh3 := Held.below ⟨e0, e1, e2, e3⟩ b3
          have B3 := hB.trans (b3.mono hB.size)
          have z3 : w2.heap.size < w3.heap.size := Nat.lt_of_lt_of_le hz b3.size
          clear b3 hB hz d0 d1 d2 d3 e0 e1 e2 e3
          cases hp : (s1 == s2)
          · go_wp2
            go_ret
            have hf := HA.out.trans (pre_no1 hp)
            exact ⟨ret_bool hf.symm, B3⟩
          · have HQ := Lib.hid (pre_yes1 HP.out hp)
            clear HP
            go_wp2
            go_roundw
            case rel => exact ⟨2, by omega, by go_num, HQ.out, hr3, hh3, z3, B3⟩
            case measure => simp [intOf]
        · obtain ⟨d0, d1, d2, d3⟩ := hr
          obtain ⟨e0, e1, e2, e3⟩ := hh
          go_wp2_with fail
          (with_reducible refine (orbitSteps _ _ _ _ _ _ _ _ _ (by omega) (by omega) (by omega) (by omega)).mono ?_)
          rintro e w3 ⟨rfl, b3⟩
          have hr3 := Rules.below (v := (.agg #[.int .i64 s1, .int .i64 l1, .int .i64 j1, .bool o1])) ⟨d0, d1, d2, d3⟩ b3
          have hh3 := Held.below ⟨e0, e1, e2, e3⟩ b3
          have B3 := hB.trans (b3.mono hB.size)
          have z3 : w2.heap.size < w3.heap.size := Nat.lt_of_lt_of_le hz b3.size
          clear b3 hB hz d0 d1 d2 d3 e0 e1 e2 e3
          cases hp : (nearB l1 l2 1)
          · go_wp2
            go_ret
            have hf := HA.out.trans (pre_no2 hp)
            exact ⟨ret_bool hf.symm, B3⟩
          · have HQ := Lib.hid (pre_yes2 HP.out hp)
            clear HP
            go_wp2
            go_roundw
            case rel => exact ⟨3, by omega, by go_num, HQ.out, hr3, hh3, z3, B3⟩
            case measure => simp [intOf]
        · obtain ⟨d0, d1, d2, d3⟩ := hr
          obtain ⟨e0, e1, e2, e3⟩ := hh
          go_wp2_with fail
          (with_reducible refine (totalSteps _ _ _ _ _ _ _ _ _ (by omega) (by omega) (by omega) (by omega)).mono ?_)
          rintro e w3 ⟨rfl, b3⟩
          have hr3 := Rules.below (v := (.agg #[.int .i64 s1, .int .i64 l1, .int .i64 j1, .bool o1])) ⟨d0, d1, d2, d3⟩ b3
          have hh3 := Held.below ⟨e0, e1, e2, e3⟩ b3
          have B3 := hB.trans (b3.mono hB.size)
          have z3 : w2.heap.size < w3.heap.size := Nat.lt_of_lt_of_le hz b3.size
          clear b3 hB hz d0 d1 d2 d3 e0 e1 e2 e3
          cases hp : (nearB j1 j2 2)
          · go_wp2
            go_ret
            have hf := HA.out.trans (pre_no3 hp)
            exact ⟨ret_bool hf.symm, B3⟩
          · have HQ := Lib.hid (pre_yes3 HP.out hp)
            clear HP
            go_wp2
            go_roundw
            case rel => exact ⟨4, by omega, by go_num, HQ.out, hr3, hh3, z3, B3⟩
            case measure => simp [intOf]
        · go_wp2
          go_ret
          exact ⟨ret_bool (HA.out.trans HP.out).symm, hB⟩
    · have h2' : levelOk s2 l2 j2 = false := by simpa using h2
      have ha : allowed s1 l1 j1 o1 s2 l2 j2 o2 = false := by simp [allowed, h2']
      have HA := Lib.hid ha
      clear ha h2
      go_enter Try.func19, Try.ntmps19
      go_wp2_with fail
      (with_reducible refine (iStateValid _ _ _ _ _).mono ?_)
      rintro e w1 ⟨rfl, b1⟩
      have hz1 := b1.size
      obtain ⟨hc1, hf1⟩ := bcell b1
      have B1 : Below w.heap.size w w1 := Below.trans (by repeat (first | (with_reducible refine Below.drew ?_) | (with_reducible refine below_drewN ?_ _) | (with_reducible refine Below.alloc ?_ ?_ _) | (with_reducible refine Below.setCell ?_ ?_ _) | (with_reducible assumption) | (with_reducible exact Below.refl _ _) | omega | (simp <;> omega))) (b1.mono (by first | omega | (simp <;> omega)))
      (try simp at hz1)
      have hy1 : w.heap.size < w1.heap.size := by omega
      clear b1
      go_wp2_with fail
      (with_reducible refine (iStateValid _ _ _ _ _).mono ?_)
      rintro e w2 ⟨rfl, b2⟩
      have hz2 := b2.size
      obtain ⟨hc2, hf2⟩ := bcell b2
      have B2 : Below w.heap.size w w2 := Below.trans (by repeat (first | (with_reducible refine Below.drew ?_) | (with_reducible refine below_drewN ?_ _) | (with_reducible refine Below.alloc ?_ ?_ _) | (with_reducible refine Below.setCell ?_ ?_ _) | (with_reducible assumption) | (with_reducible exact Below.refl _ _) | omega | (simp <;> omega))) (b2.mono (by first | omega | (simp <;> omega)))
      (try simp at hz2)
      have hy2 : w.heap.size < w2.heap.size := by omega
      clear b2
      go_wp2
      go_ret
      exact ⟨ret_bool HA.out.symm, (by repeat (first | (with_reducible refine Below.drew ?_) | (with_reducible refine below_drewN ?_ _) | (with_reducible refine Below.alloc ?_ ?_ _) | (with_reducible refine Below.setCell ?_ ?_ _) | (with_reducible assumption) | (with_reducible exact Below.refl _ _) | omega | (simp <;> omega)))⟩
  · have h1' : levelOk s1 l1 j1 = false := by simpa using h1
    have ha : allowed s1 l1 j1 o1 s2 l2 j2 o2 = false := by simp [allowed, h1']
    have HA := Lib.hid ha
    clear ha h1
    go_enter Try.func19, Try.ntmps19
    go_wp2_with fail
    (with_reducible refine (iStateValid _ _ _ _ _).mono ?_)
    rintro e w1 ⟨rfl, b1⟩
    have hz1 := b1.size
    obtain ⟨hc1, hf1⟩ := bcell b1
    have B1 : Below w.heap.size w w1 := Below.trans (by repeat (first | (with_reducible refine Below.drew ?_) | (with_reducible refine below_drewN ?_ _) | (with_reducible refine Below.alloc ?_ ?_ _) | (with_reducible refine Below.setCell ?_ ?_ _) | (with_reducible assumption) | (with_reducible exact Below.refl _ _) | omega | (simp <;> omega))) (b1.mono (by first | omega | (simp <;> omega)))
    (try simp at hz1)
    have hy1 : w.heap.size < w1.heap.size := by omega
    clear b1
    go_wp2
    go_ret
    exact ⟨ret_bool HA.out.symm, (by repeat (first | (with_reducible refine Below.drew ?_) | (with_reducible refine below_drewN ?_ _) | (with_reducible refine Below.alloc ?_ ?_ _) | (with_reducible refine Below.setCell ?_ ?_ _) | (with_reducible assumption) | (with_reducible exact Below.refl _ _) | omega | (simp <;> omega)))⟩

theorem allowed_cases (s1 l1 j1 : Int) (o1 : Bool) (s2 l2 j2 : Int) (o2 : Bool) (h1 : levelOk s1 l1 j1 = true) (h2 : levelOk s2 l2 j2 = true) :
    ((o1 == o2) = true ∧ allowed s1 l1 j1 o1 s2 l2 j2 o2 = false) ∨ ((o1 == o2) = false ∧ (((s1 != s2) = true ∧ allowed s1 l1 j1 o1 s2 l2 j2 o2 = false) ∨ ((s1 != s2) = false ∧
      ((nearB l1 l2 1 = false ∧ allowed s1 l1 j1 o1 s2 l2 j2 o2 = false) ∨ (nearB l1 l2 1 = true ∧ allowed s1 l1 j1 o1 s2 l2 j2 o2 = nearB j1 j2 2))))) := by
  by_cases h3 : o1 = o2
  · exact .inl ⟨by simp [h3], by simp [allowed, h3]⟩
  · refine .inr ⟨by simpa using h3, ?_⟩
    by_cases h4 : s1 = s2
    · refine .inr ⟨by simp [h4], ?_⟩
      by_cases h5 : nearB l1 l2 1 = true
      · refine .inr ⟨h5, ?_⟩
        subst h4
        simp [allowed, h1, h2, h5, h3]
      · exact .inl ⟨by simpa using h5, by simp [allowed]; intros; simp_all⟩
    · exact .inl ⟨by simpa using h4, by simp [allowed]; intros; simp_all⟩

set_option maxRecDepth 100000 in
set_option maxHeartbeats 2000000 in
theorem sStateAllowed (s1 l1 j1 : Int) (o1 : Bool) (s2 l2 j2 : Int) (o2 : Bool) (w : World) :
    Calls Try.prog 20 #[.agg #[.int .i64 s1, .int .i64 l1, .int .i64 j1, .bool o1], .agg #[.int .i64 s2, .int .i64 l2, .int .i64 j2, .bool o2]] w (Gives (.bool (allowed s1 l1 j1 o1 s2 l2 j2 o2)) w) := by
  by_cases h1 : levelOk s1 l1 j1 = true
  · by_cases h2 : levelOk s2 l2 j2 = true
    · have q1 := levelOk_bounds h1
      have q2 := levelOk_bounds h2
      have hx : w.heap.size + 1 < w.heap.size + 1 + 1 := by omega
      rcases allowed_cases s1 l1 j1 o1 s2 l2 j2 o2 h1 h2 with ⟨h3, ha⟩ | ⟨h3, ⟨h4, ha⟩ | ⟨h4, ⟨h5, ha⟩ | ⟨h5, ha⟩⟩⟩
      · have HA := Lib.hid ha
        clear ha
        go_enter Try.func20, Try.ntmps20
        go_wp2_with fail
        (with_reducible refine (sStateValid _ _ _ _ _).mono ?_)
        rintro e w1 ⟨rfl, b1⟩
        have hz1 := b1.size
        obtain ⟨hc1, hf1⟩ := bcell b1
        have B1 : Below w.heap.size w w1 := Below.trans (by repeat (first | (with_reducible refine Below.drew ?_) | (with_reducible refine below_drewN ?_ _) | (with_reducible refine Below.alloc ?_ ?_ _) | (with_reducible refine Below.setCell ?_ ?_ _) | (with_reducible assumption) | (with_reducible exact Below.refl _ _) | omega | (simp <;> omega))) (b1.mono (by first | omega | (simp <;> omega)))
        (try simp at hz1)
        have hy1 : w.heap.size < w1.heap.size := by omega
        clear b1
        have hx1 : w.heap.size + 1 < w1.heap.size := by omega
        go_wp2_with fail
        (with_reducible refine (sStateValid _ _ _ _ _).mono ?_)
        rintro e w2 ⟨rfl, b2⟩
        have hz2 := b2.size
        obtain ⟨hc2, hf2⟩ := bcell b2
        have B2 : Below w.heap.size w w2 := Below.trans (by repeat (first | (with_reducible refine Below.drew ?_) | (with_reducible refine below_drewN ?_ _) | (with_reducible refine Below.alloc ?_ ?_ _) | (with_reducible refine Below.setCell ?_ ?_ _) | (with_reducible assumption) | (with_reducible exact Below.refl _ _) | omega | (simp <;> omega))) (b2.mono (by first | omega | (simp <;> omega)))
        (try simp at hz2)
        have hy2 : w.heap.size < w2.heap.size := by omega
        clear b2
        go_wp2
        go_ret
        exact ⟨ret_bool HA.out.symm, (by repeat (first | (with_reducible refine Below.drew ?_) | (with_reducible refine below_drewN ?_ _) | (with_reducible refine Below.alloc ?_ ?_ _) | (with_reducible refine Below.setCell ?_ ?_ _) | (with_reducible assumption) | (with_reducible exact Below.refl _ _) | omega | (simp <;> omega)))⟩
      · have HA := Lib.hid ha
        clear ha
        go_enter Try.func20, Try.ntmps20
        go_wp2_with fail
        (with_reducible refine (sStateValid _ _ _ _ _).mono ?_)
        rintro e w1 ⟨rfl, b1⟩
        have hz1 := b1.size
        obtain ⟨hc1, hf1⟩ := bcell b1
        have B1 : Below w.heap.size w w1 := Below.trans (by repeat (first | (with_reducible refine Below.drew ?_) | (with_reducible refine below_drewN ?_ _) | (with_reducible refine Below.alloc ?_ ?_ _) | (with_reducible refine Below.setCell ?_ ?_ _) | (with_reducible assumption) | (with_reducible exact Below.refl _ _) | omega | (simp <;> omega))) (b1.mono (by first | omega | (simp <;> omega)))
        (try simp at hz1)
        have hy1 : w.heap.size < w1.heap.size := by omega
        clear b1
        have hx1 : w.heap.size + 1 < w1.heap.size := by omega
        go_wp2_with fail
        (with_reducible refine (sStateValid _ _ _ _ _).mono ?_)
        rintro e w2 ⟨rfl, b2⟩
        have hz2 := b2.size
        obtain ⟨hc2, hf2⟩ := bcell b2
        have B2 : Below w.heap.size w w2 := Below.trans (by repeat (first | (with_reducible refine Below.drew ?_) | (with_reducible refine below_drewN ?_ _) | (with_reducible refine Below.alloc ?_ ?_ _) | (with_reducible refine Below.setCell ?_ ?_ _) | (with_reducible assumption) | (with_reducible exact Below.refl _ _) | omega | (simp <;> omega))) (b2.mono (by first | omega | (simp <;> omega)))
        (try simp at hz2)
        have hy2 : w.heap.size < w2.heap.size := by omega
        clear b2
        go_wp2
        go_ret
        exact ⟨ret_bool HA.out.symm, (by repeat (first | (with_reducible refine Below.drew ?_) | (with_reducible refine below_drewN ?_ _) | (with_reducible refine Below.alloc ?_ ?_ _) | (with_reducible refine Below.setCell ?_ ?_ _) | (with_reducible assumption) | (with_reducible exact Below.refl _ _) | omega | (simp <;> omega)))⟩
      · have HA := Lib.hid ha
        clear ha
        go_enter Try.func20, Try.ntmps20
        go_wp2_with fail
        (with_reducible refine (sStateValid _ _ _ _ _).mono ?_)
        rintro e w1 ⟨rfl, b1⟩
        have hz1 := b1.size
        obtain ⟨hc1, hf1⟩ := bcell b1
        have B1 : Below w.heap.size w w1 := Below.trans (by repeat (first | (with_reducible refine Below.drew ?_) | (with_reducible refine below_drewN ?_ _) | (with_reducible refine Below.alloc ?_ ?_ _) | (with_reducible refine Below.setCell ?_ ?_ _) | (with_reducible assumption) | (with_reducible exact Below.refl _ _) | omega | (simp <;> omega))) (b1.mono (by first | omega | (simp <;> omega)))
        (try simp at hz1)
        have hy1 : w.heap.size < w1.heap.size := by omega
        clear b1
        have hx1 : w.heap.size + 1 < w1.heap.size := by omega
        go_wp2_with fail
        (with_reducible refine (sStateValid _ _ _ _ _).mono ?_)
        rintro e w2 ⟨rfl, b2⟩
        have hz2 := b2.size
        obtain ⟨hc2, hf2⟩ := bcell b2
        have B2 : Below w.heap.size w w2 := Below.trans (by repeat (first | (with_reducible refine Below.drew ?_) | (with_reducible refine below_drewN ?_ _) | (with_reducible refine Below.alloc ?_ ?_ _) | (with_reducible refine Below.setCell ?_ ?_ _) | (with_reducible assumption) | (with_reducible exact Below.refl _ _) | omega | (simp <;> omega))) (b2.mono (by first | omega | (simp <;> omega)))
        (try simp at hz2)
        have hy2 : w.heap.size < w2.heap.size := by omega
        clear b2
        go_wp2_with fail
        (with_reducible refine (l25Near _ _ _ _ (by omega) (by omega) (by omega) (by omega)).mono ?_)
        rintro e w' ⟨rfl, rfl⟩
        go_wp2
        go_ret
        exact ⟨ret_bool HA.out.symm, (by repeat (first | (with_reducible refine Below.drew ?_) | (with_reducible refine below_drewN ?_ _) | (with_reducible refine Below.alloc ?_ ?_ _) | (with_reducible refine Below.setCell ?_ ?_ _) | (with_reducible assumption) | (with_reducible exact Below.refl _ _) | omega | (simp <;> omega)))⟩
      · have HA := Lib.hid ha
        clear ha
        go_enter Try.func20, Try.ntmps20
        go_wp2_with fail
        (with_reducible refine (sStateValid _ _ _ _ _).mono ?_)
        rintro e w1 ⟨rfl, b1⟩
        have hz1 := b1.size
        obtain ⟨hc1, hf1⟩ := bcell b1
        have B1 : Below w.heap.size w w1 := Below.trans (by repeat (first | (with_reducible refine Below.drew ?_) | (with_reducible refine below_drewN ?_ _) | (with_reducible refine Below.alloc ?_ ?_ _) | (with_reducible refine Below.setCell ?_ ?_ _) | (with_reducible assumption) | (with_reducible exact Below.refl _ _) | omega | (simp <;> omega))) (b1.mono (by first | omega | (simp <;> omega)))
        (try simp at hz1)
        have hy1 : w.heap.size < w1.heap.size := by omega
        clear b1
        have hx1 : w.heap.size + 1 < w1.heap.size := by omega
        go_wp2_with fail
        (with_reducible refine (sStateValid _ _ _ _ _).mono ?_)
        rintro e w2 ⟨rfl, b2⟩
        have hz2 := b2.size
        obtain ⟨hc2, hf2⟩ := bcell b2
        have B2 : Below w.heap.size w w2 := Below.trans (by repeat (first | (with_reducible refine Below.drew ?_) | (with_reducible refine below_drewN ?_ _) | (with_reducible refine Below.alloc ?_ ?_ _) | (with_reducible refine Below.setCell ?_ ?_ _) | (with_reducible assumption) | (with_reducible exact Below.refl _ _) | omega | (simp <;> omega))) (b2.mono (by first | omega | (simp <;> omega)))
        (try simp at hz2)
        have hy2 : w.heap.size < w2.heap.size := by omega
        clear b2
        go_wp2_with fail
        (with_reducible refine (l25Near _ _ _ _ (by omega) (by omega) (by omega) (by omega)).mono ?_)
        rintro e w' ⟨rfl, rfl⟩
        go_wp2_with fail
        (with_reducible refine (l25Near _ _ _ _ (by omega) (by omega) (by omega) (by omega)).mono ?_)
        rintro e w' ⟨rfl, rfl⟩
        go_wp2
        go_ret
        exact ⟨ret_bool HA.out.symm, (by repeat (first | (with_reducible refine Below.drew ?_) | (with_reducible refine below_drewN ?_ _) | (with_reducible refine Below.alloc ?_ ?_ _) | (with_reducible refine Below.setCell ?_ ?_ _) | (with_reducible assumption) | (with_reducible exact Below.refl _ _) | omega | (simp <;> omega)))⟩
    · have h2' : levelOk s2 l2 j2 = false := by simpa using h2
      have ha : allowed s1 l1 j1 o1 s2 l2 j2 o2 = false := by simp [allowed, h2']
      have HA := Lib.hid ha
      clear ha h2
      go_enter Try.func20, Try.ntmps20
      go_wp2_with fail
      (with_reducible refine (sStateValid _ _ _ _ _).mono ?_)
      rintro e w1 ⟨rfl, b1⟩
      have hz1 := b1.size
      obtain ⟨hc1, hf1⟩ := bcell b1
      have B1 : Below w.heap.size w w1 := Below.trans (by repeat (first | (with_reducible refine Below.drew ?_) | (with_reducible refine below_drewN ?_ _) | (with_reducible refine Below.alloc ?_ ?_ _) | (with_reducible refine Below.setCell ?_ ?_ _) | (with_reducible assumption) | (with_reducible exact Below.refl _ _) | omega | (simp <;> omega))) (b1.mono (by first | omega | (simp <;> omega)))
      (try simp at hz1)
      have hy1 : w.heap.size < w1.heap.size := by omega
      clear b1
      go_wp2_with fail
      (with_reducible refine (sStateValid _ _ _ _ _).mono ?_)
      rintro e w2 ⟨rfl, b2⟩
      have hz2 := b2.size
      obtain ⟨hc2, hf2⟩ := bcell b2
      have B2 : Below w.heap.size w w2 := Below.trans (by repeat (first | (with_reducible refine Below.drew ?_) | (with_reducible refine below_drewN ?_ _) | (with_reducible refine Below.alloc ?_ ?_ _) | (with_reducible refine Below.setCell ?_ ?_ _) | (with_reducible assumption) | (with_reducible exact Below.refl _ _) | omega | (simp <;> omega))) (b2.mono (by first | omega | (simp <;> omega)))
      (try simp at hz2)
      have hy2 : w.heap.size < w2.heap.size := by omega
      clear b2
      go_wp2
      go_ret
      exact ⟨ret_bool HA.out.symm, (by repeat (first | (with_reducible refine Below.drew ?_) | (with_reducible refine below_drewN ?_ _) | (with_reducible refine Below.alloc ?_ ?_ _) | (with_reducible refine Below.setCell ?_ ?_ _) | (with_reducible assumption) | (with_reducible exact Below.refl _ _) | omega | (simp <;> omega)))⟩
  · have h1' : levelOk s1 l1 j1 = false := by simpa using h1
    have ha : allowed s1 l1 j1 o1 s2 l2 j2 o2 = false := by simp [allowed, h1']
    have HA := Lib.hid ha
    clear ha h1
    go_enter Try.func20, Try.ntmps20
    go_wp2_with fail
    (with_reducible refine (sStateValid _ _ _ _ _).mono ?_)
    rintro e w1 ⟨rfl, b1⟩
    have hz1 := b1.size
    obtain ⟨hc1, hf1⟩ := bcell b1
    have B1 : Below w.heap.size w w1 := Below.trans (by repeat (first | (with_reducible refine Below.drew ?_) | (with_reducible refine below_drewN ?_ _) | (with_reducible refine Below.alloc ?_ ?_ _) | (with_reducible refine Below.setCell ?_ ?_ _) | (with_reducible assumption) | (with_reducible exact Below.refl _ _) | omega | (simp <;> omega))) (b1.mono (by first | omega | (simp <;> omega)))
    (try simp at hz1)
    have hy1 : w.heap.size < w1.heap.size := by omega
    clear b1
    go_wp2
    go_ret
    exact ⟨ret_bool HA.out.symm, (by repeat (first | (with_reducible refine Below.drew ?_) | (with_reducible refine below_drewN ?_ _) | (with_reducible refine Below.alloc ?_ ?_ _) | (with_reducible refine Below.setCell ?_ ?_ _) | (with_reducible assumption) | (with_reducible exact Below.refl _ _) | omega | (simp <;> omega)))⟩

end Go.Proofs.Ythinhhfegflmmaa.Allowed
