/-
  The symbol of six angular momenta: triads, whether it exists; the program's.
-/
import Derived.Test.YthinhhfegflmmaaIdx
namespace Go.Proofs.Ythinhhfegflmmaa.Six
open Go.RowKit Go.Proofs.Ythinhhfegflmmaa.RatP Go.Proofs.Ythinhhfegflmmaa.ChoP Go.Proofs.Ythinhhfegflmmaa.StrP Go.Proofs.Ythinhhfegflmmaa.Spin Go.Proofs.Ythinhhfegflmmaa.Row Go.Proofs.Ythinhhfegflmmaa.Later Go.Proofs.Ythinhhfegflmmaa.Fact Go.Proofs.Ythinhhfegflmmaa.Delta
set_option linter.unusedVariables false
set_option linter.unusedSimpArgs false

def six (a b c d e f : Int) : Value := .agg #[.int .i64 a, .int .i64 b, .int .i64 c, .int .i64 d, .int .i64 e, .int .i64 f]
def four (a b c d e f : Int) : Value := .agg #[.int .i64 a, .int .i64 b, .int .i64 c, .int .i64 a, .int .i64 e, .int .i64 f, .int .i64 d, .int .i64 b, .int .i64 f, .int .i64 d, .int .i64 e, .int .i64 c]

set_option maxRecDepth 100000 in
set_option maxHeartbeats 1000000 in
theorem triads (a b c d e f : Int) (w : World) : Calls Try.prog 69 #[.agg #[.int .i64 a, .int .i64 b, .int .i64 c, .int .i64 d, .int .i64 e, .int .i64 f]] w (Gives (.agg #[.int .i64 a, .int .i64 b, .int .i64 c, .int .i64 a, .int .i64 e, .int .i64 f, .int .i64 d, .int .i64 b, .int .i64 f, .int .i64 d, .int .i64 e, .int .i64 c]) w) := by
  go_enter Try.func69, Try.ntmps69
  go_wp2
  refine bodyPost_ret (v := .agg #[.int .i64 a, .int .i64 b, .int .i64 c, .int .i64 a, .int .i64 e, .int .i64 f, .int .i64 d, .int .i64 b, .int .i64 f, .int .i64 d, .int .i64 e, .int .i64 c]) (by simp [results, Try.results69, go_sem, *, lt2, lt3, lt4, lt5, lt6]) rfl ⟨rfl, (by repeat (first | (with_reducible refine Below.drew ?_) | (with_reducible refine below_drewN ?_ _) | (with_reducible refine Below.alloc ?_ ?_ _) | (with_reducible refine Below.setCell ?_ ?_ _) | (with_reducible assumption) | (with_reducible exact Below.refl _ _) | omega | (simp <;> omega)))⟩

/-- the first i triads can be coupled -/
def pre6 (a b c d e f : Int) (i : Nat) : Bool := (decide (i < 1) || triOk a b c) && (decide (i < 2) || triOk a e f) && (decide (i < 3) || triOk d b f) && (decide (i < 4) || triOk d e c)
theorem pre6_all (a b c d e f : Int) : pre6 a b c d e f 4 = sixOk a b c d e f := by simp [pre6, sixOk]
theorem no1 {a b c d e f : Int} (h : triOk a b c = false) : sixOk a b c d e f = false := by simp [sixOk, h]
theorem no2 {a b c d e f : Int} (h : triOk a e f = false) : sixOk a b c d e f = false := by simp [sixOk, h]
theorem no3 {a b c d e f : Int} (h : triOk d b f = false) : sixOk a b c d e f = false := by simp [sixOk, h]
theorem no4 {a b c d e f : Int} (h : triOk d e c = false) : sixOk a b c d e f = false := by simp [sixOk, h]
theorem yes4 {a b c d e f : Int} (h1 : triOk a b c = true) (h2 : triOk a e f = true) (h3 : triOk d b f = true) (h4 : triOk d e c = true) : sixOk a b c d e f = true := by simp [sixOk, h1, h2, h3, h4]
theorem six_parts {a b c d e f : Int} (h : sixOk a b c d e f = true) : triOk a b c = true ∧ triOk a e f = true ∧ triOk d b f = true ∧ triOk d e c = true := by
  unfold sixOk at h
  rw [Bool.and_eq_true, Bool.and_eq_true, Bool.and_eq_true] at h
  exact ⟨h.1.1.1, h.1.1.2, h.1.2, h.2⟩

set_option maxRecDepth 100000 in
set_option maxHeartbeats 4000000 in
theorem exists' (a b c d e f : Int) (w : World) : Calls Try.prog 46 #[.agg #[.int .i64 a, .int .i64 b, .int .i64 c, .int .i64 d, .int .i64 e, .int .i64 f]] w (Gives (.bool (sixOk a b c d e f)) w) := by
  have HN1 := Lib.hid (no1 (a := a) (b := b) (c := c) (d := d) (e := e) (f := f))
  have HN2 := Lib.hid (no2 (a := a) (b := b) (c := c) (d := d) (e := e) (f := f))
  have HN3 := Lib.hid (no3 (a := a) (b := b) (c := c) (d := d) (e := e) (f := f))
  have HN4 := Lib.hid (no4 (a := a) (b := b) (c := c) (d := d) (e := e) (f := f))
  have HY := Lib.hid (yes4 (a := a) (b := b) (c := c) (d := d) (e := e) (f := f))
  generalize sixOk a b c d e f = r at *
  have HT1 := Lib.hid (fun W (r : Bool) (h : triOk a b c = r) => triad_is W h)
  have HT2 := Lib.hid (fun W (r : Bool) (h : triOk a e f = r) => triad_is W h)
  have HT3 := Lib.hid (fun W (r : Bool) (h : triOk d b f = r) => triad_is W h)
  have HT4 := Lib.hid (fun W (r : Bool) (h : triOk d e c = r) => triad_is W h)
  have IX0 := fun W => idx0 (.int .i64 a) (.int .i64 b) (.int .i64 c) (.int .i64 a) (.int .i64 e) (.int .i64 f) (.int .i64 d) (.int .i64 b) (.int .i64 f) (.int .i64 d) (.int .i64 e) (.int .i64 c) W
  have IX1 := fun W => idx1 (.int .i64 a) (.int .i64 b) (.int .i64 c) (.int .i64 a) (.int .i64 e) (.int .i64 f) (.int .i64 d) (.int .i64 b) (.int .i64 f) (.int .i64 d) (.int .i64 e) (.int .i64 c) W
  have IX2 := fun W => idx2 (.int .i64 a) (.int .i64 b) (.int .i64 c) (.int .i64 a) (.int .i64 e) (.int .i64 f) (.int .i64 d) (.int .i64 b) (.int .i64 f) (.int .i64 d) (.int .i64 e) (.int .i64 c) W
  have IX3 := fun W => idx3 (.int .i64 a) (.int .i64 b) (.int .i64 c) (.int .i64 a) (.int .i64 e) (.int .i64 f) (.int .i64 d) (.int .i64 b) (.int .i64 f) (.int .i64 d) (.int .i64 e) (.int .i64 c) W
  go_enter Try.func46, Try.ntmps46
  go_wp2_with fail
  (with_reducible refine (triads a b c d e f _).mono ?_)
  rintro e w1 ⟨rfl, b1⟩
  have hz1 := b1.size
  obtain ⟨hc1, hf1⟩ := bcell b1
  have B1 : Below w.heap.size w w1 := Below.trans (by repeat (first | (with_reducible refine Below.drew ?_) | (with_reducible refine below_drewN ?_ _) | (with_reducible refine Below.alloc ?_ ?_ _) | (with_reducible refine Below.setCell ?_ ?_ _) | (with_reducible assumption) | (with_reducible exact Below.refl _ _) | omega | (simp <;> omega))) (b1.mono (by first | omega | (simp <;> omega)))
  (try simp at hz1)
  have hy1 : w.heap.size < w1.heap.size := by omega
  clear b1
  go_wp2
  go_loopw [7] (fun i wr => ∃ m : Int, 0 ≤ m ∧ m ≤ 4 ∧ i = .int .i64 m ∧ Below w.heap.size w wr ∧ Hid ((1 ≤ m → triOk a b c = true) ∧ (2 ≤ m → triOk a e f = true) ∧ (3 ≤ m → triOk d b f = true) ∧ (4 ≤ m → triOk d e c = true))) (fun i _ => (4 - intOf i).toNat)
  case atStart => exact ⟨0, by omega, by omega, rfl, B1, Lib.hid ⟨fun h => absurd h (by decide), fun h => absurd h (by decide), fun h => absurd h (by decide), fun h => absurd h (by decide)⟩⟩
  case round =>
    obtain ⟨m, hm0, hm, rfl, hB, hG⟩ := hrel
    clear hc1 hf1 hz1 hy1 B1
    have hsz := hB.size
    obtain rfl | rfl | rfl | rfl | rfl : m = 0 ∨ m = 1 ∨ m = 2 ∨ m = 3 ∨ m = 4 := by omega
    · cases h : triOk a b c
      · have HV := Lib.hid (fun W => HT1.out W _ h)
        have HR := Lib.hid (HN1.out h)
        clear h
        go_wp2_with fail
        (with_reducible refine (HV.out _).mono ?_)
        rintro e w' ⟨rfl, rfl⟩
        go_wp2
        go_ret
        exact ⟨ret_bool HR.out.symm, hB.alloc hsz _⟩
      · have HV := Lib.hid (fun W => HT1.out W _ h)
        have HG := Lib.hid h
        clear h
        go_wp2_with fail
        (with_reducible refine (HV.out _).mono ?_)
        rintro e w' ⟨rfl, rfl⟩
        go_wp2
        go_roundw
        case rel => exact ⟨1, by omega, by omega, rfl, hB.alloc hsz _, Lib.hid ⟨fun _ => (by first | exact HG.out | trivial), fun h => absurd h (by decide), fun h => absurd h (by decide), fun h => absurd h (by decide)⟩⟩
        case measure => simp [intOf]
    · cases h : triOk a e f
      · have HV := Lib.hid (fun W => HT2.out W _ h)
        have HR := Lib.hid (HN2.out h)
        clear h
        go_wp2_with fail
        (with_reducible refine (HV.out _).mono ?_)
        rintro e w' ⟨rfl, rfl⟩
        go_wp2
        go_ret
        exact ⟨ret_bool HR.out.symm, hB.alloc hsz _⟩
      · have HV := Lib.hid (fun W => HT2.out W _ h)
        have HG := Lib.hid h
        clear h
        go_wp2_with fail
        (with_reducible refine (HV.out _).mono ?_)
        rintro e w' ⟨rfl, rfl⟩
        go_wp2
        go_roundw
        case rel => exact ⟨2, by omega, by omega, rfl, hB.alloc hsz _, Lib.hid ⟨fun _ => hG.out.1 (by decide), fun _ => (by first | exact HG.out | trivial), fun h => absurd h (by decide), fun h => absurd h (by decide)⟩⟩
        case measure => simp [intOf]
    · cases h : triOk d b f
      · have HV := Lib.hid (fun W => HT3.out W _ h)
        have HR := Lib.hid (HN3.out h)
        clear h
        go_wp2_with fail
        (with_reducible refine (HV.out _).mono ?_)
        rintro e w' ⟨rfl, rfl⟩
        go_wp2
        go_ret
        exact ⟨ret_bool HR.out.symm, hB.alloc hsz _⟩
      · have HV := Lib.hid (fun W => HT3.out W _ h)
        have HG := Lib.hid h
        clear h
        go_wp2_with fail
        (with_reducible refine (HV.out _).mono ?_)
        rintro e w' ⟨rfl, rfl⟩
        go_wp2
        go_roundw
        case rel => exact ⟨3, by omega, by omega, rfl, hB.alloc hsz _, Lib.hid ⟨fun _ => hG.out.1 (by decide), fun _ => hG.out.2.1 (by decide), fun _ => (by first | exact HG.out | trivial), fun h => absurd h (by decide)⟩⟩
        case measure => simp [intOf]
    · cases h : triOk d e c
      · have HV := Lib.hid (fun W => HT4.out W _ h)
        have HR := Lib.hid (HN4.out h)
        clear h
        go_wp2_with fail
        (with_reducible refine (HV.out _).mono ?_)
        rintro e w' ⟨rfl, rfl⟩
        go_wp2
        go_ret
        exact ⟨ret_bool HR.out.symm, hB.alloc hsz _⟩
      · have HV := Lib.hid (fun W => HT4.out W _ h)
        have HG := Lib.hid h
        clear h
        go_wp2_with fail
        (with_reducible refine (HV.out _).mono ?_)
        rintro e w' ⟨rfl, rfl⟩
        go_wp2
        go_roundw
        case rel => exact ⟨4, by omega, by omega, rfl, hB.alloc hsz _, Lib.hid ⟨fun _ => hG.out.1 (by decide), fun _ => hG.out.2.1 (by decide), fun _ => hG.out.2.2.1 (by decide), fun _ => (by first | exact HG.out | trivial)⟩⟩
        case measure => simp [intOf]
    · have HR := Lib.hid (HY.out (hG.out.1 (by decide)) (hG.out.2.1 (by decide)) (hG.out.2.2.1 (by decide)) (hG.out.2.2.2 (by decide)))
      clear hG
      go_wp2
      go_ret
      exact ⟨ret_bool HR.out.symm, hB⟩
theorem exists_is {a b c d e f : Int} {r : Bool} (w : World) (h : sixOk a b c d e f = r) : Calls Try.prog 46 #[.agg #[.int .i64 a, .int .i64 b, .int .i64 c, .int .i64 d, .int .i64 e, .int .i64 f]] w (Gives (.bool r) w) := h ▸ exists' a b c d e f w

end Go.Proofs.Ythinhhfegflmmaa.Six
