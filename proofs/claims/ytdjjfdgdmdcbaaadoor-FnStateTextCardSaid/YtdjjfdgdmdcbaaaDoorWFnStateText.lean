/-
  The walk of the law FnStateText.
-/
import Derived.Test.YtdjjfdgdmdcbaaaDoorTextF
import Derived.Test.YtdjjfdgdmdcbaaaDoorDrawText
namespace Go.Proofs.YtdjjfdgdmdcbaaaDoor.WFnStateText
open Go.RowKit Go.Proofs.YtdjjfdgdmdcbaaaDoor.Spin Go.Proofs.YtdjjfdgdmdcbaaaDoor.Row Go.Proofs.YtdjjfdgdmdcbaaaDoor.Rd Go.Proofs.YtdjjfdgdmdcbaaaDoor.Text Go.Proofs.YtdjjfdgdmdcbaaaDoor.TextF Go.Proofs.YtdjjfdgdmdcbaaaDoor.DrawText
set_option linter.unusedVariables false
set_option linter.unusedSimpArgs false
/-- the law returns true; what was there is as it was -/
def Yes (w : World) (e : Ending) (w' : World) : Prop := e = .returned (.bool true) ∧ Below w.heap.size w w'
theorem ne_empty {A : ByteArray} (h : 1 ≤ A.size) : A.toList.isEmpty = false := by
  rw [ByteArray.toList_eq]
  cases hl : A.data.toList with
  | nil =>
    have h2 : A.data.toList.length = 0 := by rw [hl]; rfl
    rw [Array.length_toList] at h2
    have h3 : A.size = A.data.size := rfl
    omega
  | cons _ _ => rfl
set_option maxRecDepth 100000 in
set_option maxHeartbeats 4000000 in
theorem fnStateText (a : Option Addr) (n c : Nat) (zs : List Int) (w0 : World) (h : IsRow .u8 w0 a n c zs) :
    Calls Tryd.prog 4 #[.slice a n c] w0 (Yes w0) := by
  have HO := Lib.hid (drawStateText a n c zs w0 h)
  clear h
  by_cases hn : 1048576 < n
  · go_enter Tryd.func4, Tryd.ntmps4
    go_wp2_with fail
    all_goals go_ret
    all_goals exact ⟨rfl, Below.refl _ _⟩
  have hd1 : decide ((1048576 : Int) < (n : Int)) = false := decide_eq_false (by omega)
  go_enter Tryd.func4, Tryd.ntmps4
  go_wp2_with fail
  refine HO.out.mono ?_
  rintro e w ⟨s, l, j, o, rfl, B0⟩
  clear HO
  have HS := Lib.hid (fun W => sStateText s l j o W)
  have HI := Lib.hid (fun W => iStateText s l j o W)
  have HV := Lib.hid (fun W => iStateValid s l j o W)
  cases hl : levelOk s l j
  · rw [stateS_no hl] at HS HI
    clear hl HV
    go_wp2_with fail
    (with_reducible refine (HI.out _).mono ?_)
    rintro e w1 ⟨rfl, b1⟩
    have hz1 := b1.size
    obtain ⟨hc1, hf1⟩ := bcell b1
    have B1 : Below w.heap.size w w1 := Below.trans (by repeat (first | (with_reducible refine Below.drew ?_) | (with_reducible refine below_drewN ?_ _) | (with_reducible refine Below.alloc ?_ ?_ _) | (with_reducible refine Below.setCell ?_ ?_ _) | (with_reducible assumption) | (with_reducible exact Below.refl _ _) | omega | (simp <;> omega))) (b1.mono (by first | omega | (simp <;> omega)))
    (try simp at hz1)
    have hy1 : w.heap.size < w1.heap.size := by omega
    clear b1
    have kc1_0_0 : w1.cell? ⟨w.heap.size, 0, none⟩ = some (.int .i64 s) := (hc1 (w.heap.size) 0 (by first | omega | (simp <;> omega))).trans (by first | (simp; done) | (simp [*]; done) | (simp [*, World.cell?_alloc_at, World.cell?_alloc_past, World.cell?_alloc_lt, lt2, lt3, lt4]; done))
    have kc1_1_0 : w1.cell? ⟨w.heap.size, 1, none⟩ = some (.int .i64 l) := (hc1 (w.heap.size) 1 (by first | omega | (simp <;> omega))).trans (by first | (simp; done) | (simp [*]; done) | (simp [*, World.cell?_alloc_at, World.cell?_alloc_past, World.cell?_alloc_lt, lt2, lt3, lt4]; done))
    have kc1_2_0 : w1.cell? ⟨w.heap.size, 2, none⟩ = some (.int .i64 j) := (hc1 (w.heap.size) 2 (by first | omega | (simp <;> omega))).trans (by first | (simp; done) | (simp [*]; done) | (simp [*, World.cell?_alloc_at, World.cell?_alloc_past, World.cell?_alloc_lt, lt2, lt3, lt4]; done))
    have kc1_3_0 : w1.cell? ⟨w.heap.size, 3, none⟩ = some (.bool o) := (hc1 (w.heap.size) 3 (by first | omega | (simp <;> omega))).trans (by first | (simp; done) | (simp [*]; done) | (simp [*, World.cell?_alloc_at, World.cell?_alloc_past, World.cell?_alloc_lt, lt2, lt3, lt4]; done))
    go_wp2_with fail
    (with_reducible refine (HS.out _).mono ?_)
    rintro e w2 ⟨rfl, b2⟩
    have hz2 := b2.size
    obtain ⟨hc2, hf2⟩ := bcell b2
    have B2 : Below w.heap.size w w2 := Below.trans (by repeat (first | (with_reducible refine Below.drew ?_) | (with_reducible refine below_drewN ?_ _) | (with_reducible refine Below.alloc ?_ ?_ _) | (with_reducible refine Below.setCell ?_ ?_ _) | (with_reducible assumption) | (with_reducible exact Below.refl _ _) | omega | (simp <;> omega))) (b2.mono (by first | omega | (simp <;> omega)))
    (try simp at hz2)
    have hy2 : w.heap.size < w2.heap.size := by omega
    clear b2
    go_wp2
    go_ret
    exact ⟨rfl, B0.trans (Below.mono (by repeat (first | (with_reducible refine Below.drew ?_) | (with_reducible refine below_drewN ?_ _) | (with_reducible refine Below.alloc ?_ ?_ _) | (with_reducible refine Below.setCell ?_ ?_ _) | (with_reducible assumption) | (with_reducible exact Below.refl _ _) | omega | (simp <;> omega))) B0.size)⟩
  · obtain ⟨x, y, z, rfl, rfl, rfl, hx, hy, hz⟩ := level_nat hl
    rw [hl] at HV
    have HL := Lib.hid (fun W => iLevelText x y z hl hx hy hz W)
    have hsz := levelS_size x y z hx hy hz
    cases o
    · rw [stateS_even hl] at HS HI
      have he := ne_empty hsz.1
      generalize levelS x y z = A at *
      clear hl hsz
      go_wp2_with fail
      (with_reducible refine (HI.out _).mono ?_)
      rintro e w1 ⟨rfl, b1⟩
      have hz1 := b1.size
      obtain ⟨hc1, hf1⟩ := bcell b1
      have B1 : Below w.heap.size w w1 := Below.trans (by repeat (first | (with_reducible refine Below.drew ?_) | (with_reducible refine below_drewN ?_ _) | (with_reducible refine Below.alloc ?_ ?_ _) | (with_reducible refine Below.setCell ?_ ?_ _) | (with_reducible assumption) | (with_reducible exact Below.refl _ _) | omega | (simp <;> omega))) (b1.mono (by first | omega | (simp <;> omega)))
      (try simp at hz1)
      have hy1 : w.heap.size < w1.heap.size := by omega
      clear b1
      have kc1_0_0 : w1.cell? ⟨w.heap.size, 0, none⟩ = some (.int .i64 x) := (hc1 (w.heap.size) 0 (by first | omega | (simp <;> omega))).trans (by first | (simp; done) | (simp [*]; done) | (simp [*, World.cell?_alloc_at, World.cell?_alloc_past, World.cell?_alloc_lt, lt2, lt3, lt4]; done))
      have kc1_1_0 : w1.cell? ⟨w.heap.size, 1, none⟩ = some (.int .i64 y) := (hc1 (w.heap.size) 1 (by first | omega | (simp <;> omega))).trans (by first | (simp; done) | (simp [*]; done) | (simp [*, World.cell?_alloc_at, World.cell?_alloc_past, World.cell?_alloc_lt, lt2, lt3, lt4]; done))
      have kc1_2_0 : w1.cell? ⟨w.heap.size, 2, none⟩ = some (.int .i64 z) := (hc1 (w.heap.size) 2 (by first | omega | (simp <;> omega))).trans (by first | (simp; done) | (simp [*]; done) | (simp [*, World.cell?_alloc_at, World.cell?_alloc_past, World.cell?_alloc_lt, lt2, lt3, lt4]; done))
      have kc1_3_0 : w1.cell? ⟨w.heap.size, 3, none⟩ = some (.bool false) := (hc1 (w.heap.size) 3 (by first | omega | (simp <;> omega))).trans (by first | (simp; done) | (simp [*]; done) | (simp [*, World.cell?_alloc_at, World.cell?_alloc_past, World.cell?_alloc_lt, lt2, lt3, lt4]; done))
      have hx1 : w.heap.size < w1.heap.size := by omega
      go_wp2_with fail
      (with_reducible refine (HS.out _).mono ?_)
      rintro e w2 ⟨rfl, b2⟩
      have hz2 := b2.size
      obtain ⟨hc2, hf2⟩ := bcell b2
      have B2 : Below w.heap.size w w2 := Below.trans (by repeat (first | (with_reducible refine Below.drew ?_) | (with_reducible refine below_drewN ?_ _) | (with_reducible refine Below.alloc ?_ ?_ _) | (with_reducible refine Below.setCell ?_ ?_ _) | (with_reducible assumption) | (with_reducible exact Below.refl _ _) | omega | (simp <;> omega))) (b2.mono (by first | omega | (simp <;> omega)))
      (try simp at hz2)
      have hy2 : w.heap.size < w2.heap.size := by omega
      clear b2
      have kc2_0_0 : w2.cell? ⟨w.heap.size, 0, none⟩ = some (.int .i64 x) := (hc2 (w.heap.size) 0 (by first | omega | (simp <;> omega))).trans (by first | (simp; done) | (simp [*]; done) | (simp [*, World.cell?_alloc_at, World.cell?_alloc_past, World.cell?_alloc_lt, lt2, lt3, lt4]; done))
      have kc2_1_0 : w2.cell? ⟨w.heap.size, 1, none⟩ = some (.int .i64 y) := (hc2 (w.heap.size) 1 (by first | omega | (simp <;> omega))).trans (by first | (simp; done) | (simp [*]; done) | (simp [*, World.cell?_alloc_at, World.cell?_alloc_past, World.cell?_alloc_lt, lt2, lt3, lt4]; done))
      have kc2_2_0 : w2.cell? ⟨w.heap.size, 2, none⟩ = some (.int .i64 z) := (hc2 (w.heap.size) 2 (by first | omega | (simp <;> omega))).trans (by first | (simp; done) | (simp [*]; done) | (simp [*, World.cell?_alloc_at, World.cell?_alloc_past, World.cell?_alloc_lt, lt2, lt3, lt4]; done))
      have kc2_3_0 : w2.cell? ⟨w.heap.size, 3, none⟩ = some (.bool false) := (hc2 (w.heap.size) 3 (by first | omega | (simp <;> omega))).trans (by first | (simp; done) | (simp [*]; done) | (simp [*, World.cell?_alloc_at, World.cell?_alloc_past, World.cell?_alloc_lt, lt2, lt3, lt4]; done))
      have hx2 : w.heap.size < w2.heap.size := by omega
      go_wp2_with fail
      (with_reducible refine (HL.out _).mono ?_)
      rintro e w3 ⟨rfl, b3⟩
      have hz3 := b3.size
      obtain ⟨hc3, hf3⟩ := bcell b3
      have B3 : Below w.heap.size w w3 := Below.trans (by repeat (first | (with_reducible refine Below.drew ?_) | (with_reducible refine below_drewN ?_ _) | (with_reducible refine Below.alloc ?_ ?_ _) | (with_reducible refine Below.setCell ?_ ?_ _) | (with_reducible assumption) | (with_reducible exact Below.refl _ _) | omega | (simp <;> omega))) (b3.mono (by first | omega | (simp <;> omega)))
      (try simp at hz3)
      have hy3 : w.heap.size < w3.heap.size := by omega
      clear b3
      have kc3_0_0 : w3.cell? ⟨w.heap.size, 0, none⟩ = some (.int .i64 x) := (hc3 (w.heap.size) 0 (by first | omega | (simp <;> omega))).trans (by first | (simp; done) | (simp [*]; done) | (simp [*, World.cell?_alloc_at, World.cell?_alloc_past, World.cell?_alloc_lt, lt2, lt3, lt4]; done))
      have kc3_1_0 : w3.cell? ⟨w.heap.size, 1, none⟩ = some (.int .i64 y) := (hc3 (w.heap.size) 1 (by first | omega | (simp <;> omega))).trans (by first | (simp; done) | (simp [*]; done) | (simp [*, World.cell?_alloc_at, World.cell?_alloc_past, World.cell?_alloc_lt, lt2, lt3, lt4]; done))
      have kc3_2_0 : w3.cell? ⟨w.heap.size, 2, none⟩ = some (.int .i64 z) := (hc3 (w.heap.size) 2 (by first | omega | (simp <;> omega))).trans (by first | (simp; done) | (simp [*]; done) | (simp [*, World.cell?_alloc_at, World.cell?_alloc_past, World.cell?_alloc_lt, lt2, lt3, lt4]; done))
      have kc3_3_0 : w3.cell? ⟨w.heap.size, 3, none⟩ = some (.bool false) := (hc3 (w.heap.size) 3 (by first | omega | (simp <;> omega))).trans (by first | (simp; done) | (simp [*]; done) | (simp [*, World.cell?_alloc_at, World.cell?_alloc_past, World.cell?_alloc_lt, lt2, lt3, lt4]; done))
      have hx3 : w.heap.size < w3.heap.size := by omega
      go_wp2_with fail
      (with_reducible refine (HV.out _).mono ?_)
      rintro e w4 ⟨rfl, b4⟩
      have hz4 := b4.size
      obtain ⟨hc4, hf4⟩ := bcell b4
      have B4 : Below w.heap.size w w4 := Below.trans (by repeat (first | (with_reducible refine Below.drew ?_) | (with_reducible refine below_drewN ?_ _) | (with_reducible refine Below.alloc ?_ ?_ _) | (with_reducible refine Below.setCell ?_ ?_ _) | (with_reducible assumption) | (with_reducible exact Below.refl _ _) | omega | (simp <;> omega))) (b4.mono (by first | omega | (simp <;> omega)))
      (try simp at hz4)
      have hy4 : w.heap.size < w4.heap.size := by omega
      clear b4
      go_wp2
      go_ret
      exact ⟨rfl, B0.trans (Below.mono (by repeat (first | (with_reducible refine Below.drew ?_) | (with_reducible refine below_drewN ?_ _) | (with_reducible refine Below.alloc ?_ ?_ _) | (with_reducible refine Below.setCell ?_ ?_ _) | (with_reducible assumption) | (with_reducible exact Below.refl _ _) | omega | (simp <;> omega))) B0.size)⟩
    · rw [stateS_odd hl] at HS HI
      have hf := fits (a := levelS x y z) (b := ⟨#[111]⟩) (n := 10) (by rw [o_size]; omega) (by omega)
      have he := ne_empty (A := levelS x y z ++ ⟨#[111]⟩) (by rw [size_app, o_size]; omega)
      have hsz2 : (9223372036854775807 < (levelS x y z).size + 1) = False := by simp; omega
      have hsz3 : (levelS x y z).size ≤ 7 := hsz.2
      generalize levelS x y z = A at *
      clear hl hsz
      go_wp2_with fail
      (with_reducible refine (HI.out _).mono ?_)
      rintro e w1 ⟨rfl, b1⟩
      have hz1 := b1.size
      obtain ⟨hc1, hf1⟩ := bcell b1
      have B1 : Below w.heap.size w w1 := Below.trans (by repeat (first | (with_reducible refine Below.drew ?_) | (with_reducible refine below_drewN ?_ _) | (with_reducible refine Below.alloc ?_ ?_ _) | (with_reducible refine Below.setCell ?_ ?_ _) | (with_reducible assumption) | (with_reducible exact Below.refl _ _) | omega | (simp <;> omega))) (b1.mono (by first | omega | (simp <;> omega)))
      (try simp at hz1)
      have hy1 : w.heap.size < w1.heap.size := by omega
      clear b1
      have kc1_0_0 : w1.cell? ⟨w.heap.size, 0, none⟩ = some (.int .i64 x) := (hc1 (w.heap.size) 0 (by first | omega | (simp <;> omega))).trans (by first | (simp; done) | (simp [*]; done) | (simp [*, World.cell?_alloc_at, World.cell?_alloc_past, World.cell?_alloc_lt, lt2, lt3, lt4]; done))
      have kc1_1_0 : w1.cell? ⟨w.heap.size, 1, none⟩ = some (.int .i64 y) := (hc1 (w.heap.size) 1 (by first | omega | (simp <;> omega))).trans (by first | (simp; done) | (simp [*]; done) | (simp [*, World.cell?_alloc_at, World.cell?_alloc_past, World.cell?_alloc_lt, lt2, lt3, lt4]; done))
      have kc1_2_0 : w1.cell? ⟨w.heap.size, 2, none⟩ = some (.int .i64 z) := (hc1 (w.heap.size) 2 (by first | omega | (simp <;> omega))).trans (by first | (simp; done) | (simp [*]; done) | (simp [*, World.cell?_alloc_at, World.cell?_alloc_past, World.cell?_alloc_lt, lt2, lt3, lt4]; done))
      have kc1_3_0 : w1.cell? ⟨w.heap.size, 3, none⟩ = some (.bool true) := (hc1 (w.heap.size) 3 (by first | omega | (simp <;> omega))).trans (by first | (simp; done) | (simp [*]; done) | (simp [*, World.cell?_alloc_at, World.cell?_alloc_past, World.cell?_alloc_lt, lt2, lt3, lt4]; done))
      have hx1 : w.heap.size < w1.heap.size := by omega
      go_wp2_with fail
      (with_reducible refine (HS.out _).mono ?_)
      rintro e w2 ⟨rfl, b2⟩
      have hz2 := b2.size
      obtain ⟨hc2, hf2⟩ := bcell b2
      have B2 : Below w.heap.size w w2 := Below.trans (by repeat (first | (with_reducible refine Below.drew ?_) | (with_reducible refine below_drewN ?_ _) | (with_reducible refine Below.alloc ?_ ?_ _) | (with_reducible refine Below.setCell ?_ ?_ _) | (with_reducible assumption) | (with_reducible exact Below.refl _ _) | omega | (simp <;> omega))) (b2.mono (by first | omega | (simp <;> omega)))
      (try simp at hz2)
      have hy2 : w.heap.size < w2.heap.size := by omega
      clear b2
      have kc2_0_0 : w2.cell? ⟨w.heap.size, 0, none⟩ = some (.int .i64 x) := (hc2 (w.heap.size) 0 (by first | omega | (simp <;> omega))).trans (by first | (simp; done) | (simp [*]; done) | (simp [*, World.cell?_alloc_at, World.cell?_alloc_past, World.cell?_alloc_lt, lt2, lt3, lt4]; done))
      have kc2_1_0 : w2.cell? ⟨w.heap.size, 1, none⟩ = some (.int .i64 y) := (hc2 (w.heap.size) 1 (by first | omega | (simp <;> omega))).trans (by first | (simp; done) | (simp [*]; done) | (simp [*, World.cell?_alloc_at, World.cell?_alloc_past, World.cell?_alloc_lt, lt2, lt3, lt4]; done))
      have kc2_2_0 : w2.cell? ⟨w.heap.size, 2, none⟩ = some (.int .i64 z) := (hc2 (w.heap.size) 2 (by first | omega | (simp <;> omega))).trans (by first | (simp; done) | (simp [*]; done) | (simp [*, World.cell?_alloc_at, World.cell?_alloc_past, World.cell?_alloc_lt, lt2, lt3, lt4]; done))
      have kc2_3_0 : w2.cell? ⟨w.heap.size, 3, none⟩ = some (.bool true) := (hc2 (w.heap.size) 3 (by first | omega | (simp <;> omega))).trans (by first | (simp; done) | (simp [*]; done) | (simp [*, World.cell?_alloc_at, World.cell?_alloc_past, World.cell?_alloc_lt, lt2, lt3, lt4]; done))
      have hx2 : w.heap.size < w2.heap.size := by omega
      go_wp2_with fail
      (with_reducible refine (HL.out _).mono ?_)
      rintro e w3 ⟨rfl, b3⟩
      have hz3 := b3.size
      obtain ⟨hc3, hf3⟩ := bcell b3
      have B3 : Below w.heap.size w w3 := Below.trans (by repeat (first | (with_reducible refine Below.drew ?_) | (with_reducible refine below_drewN ?_ _) | (with_reducible refine Below.alloc ?_ ?_ _) | (with_reducible refine Below.setCell ?_ ?_ _) | (with_reducible assumption) | (with_reducible exact Below.refl _ _) | omega | (simp <;> omega))) (b3.mono (by first | omega | (simp <;> omega)))
      (try simp at hz3)
      have hy3 : w.heap.size < w3.heap.size := by omega
      clear b3
      have kc3_0_0 : w3.cell? ⟨w.heap.size, 0, none⟩ = some (.int .i64 x) := (hc3 (w.heap.size) 0 (by first | omega | (simp <;> omega))).trans (by first | (simp; done) | (simp [*]; done) | (simp [*, World.cell?_alloc_at, World.cell?_alloc_past, World.cell?_alloc_lt, lt2, lt3, lt4]; done))
      have kc3_1_0 : w3.cell? ⟨w.heap.size, 1, none⟩ = some (.int .i64 y) := (hc3 (w.heap.size) 1 (by first | omega | (simp <;> omega))).trans (by first | (simp; done) | (simp [*]; done) | (simp [*, World.cell?_alloc_at, World.cell?_alloc_past, World.cell?_alloc_lt, lt2, lt3, lt4]; done))
      have kc3_2_0 : w3.cell? ⟨w.heap.size, 2, none⟩ = some (.int .i64 z) := (hc3 (w.heap.size) 2 (by first | omega | (simp <;> omega))).trans (by first | (simp; done) | (simp [*]; done) | (simp [*, World.cell?_alloc_at, World.cell?_alloc_past, World.cell?_alloc_lt, lt2, lt3, lt4]; done))
      have kc3_3_0 : w3.cell? ⟨w.heap.size, 3, none⟩ = some (.bool true) := (hc3 (w.heap.size) 3 (by first | omega | (simp <;> omega))).trans (by first | (simp; done) | (simp [*]; done) | (simp [*, World.cell?_alloc_at, World.cell?_alloc_past, World.cell?_alloc_lt, lt2, lt3, lt4]; done))
      go_wp2
      go_ret
      exact ⟨rfl, B0.trans (Below.mono (by repeat (first | (with_reducible refine Below.drew ?_) | (with_reducible refine below_drewN ?_ _) | (with_reducible refine Below.alloc ?_ ?_ _) | (with_reducible refine Below.setCell ?_ ?_ _) | (with_reducible assumption) | (with_reducible exact Below.refl _ _) | omega | (simp <;> omega))) B0.size)⟩
end Go.Proofs.YtdjjfdgdmdcbaaaDoor.WFnStateText
