/-
  Contracts of the texts of small numbers: the library's Itoa, and the reference's l6Dec.
-/
import Derived.Test.YtdjjfdgdmdcbaaaDoorSpin
import Derived.Test.YtdjjfdgdmdcbaaaDoorLater
import Derived.Lib.ItoaNum
import Derived.Lib.ItoaWalk
import Derived.Lib.Strings
import Derived.Lib.Hide
import Derived.Laws.IdiomStrings
import Derived.BigCall
namespace Go.Proofs.YtdjjfdgdmdcbaaaDoor.Text
open Go.RowKit Go.Lib Go.Proofs.YtdjjfdgdmdcbaaaDoor.Spin Go.Proofs.YtdjjfdgdmdcbaaaDoor.Later
set_option linter.unusedVariables false
set_option linter.unusedSimpArgs false

/-- the numeral of n -/
def numS (n : Nat) : ByteArray := ⟨(Lib.decDigits n).toArray⟩
theorem numS_size (n : Nat) (h : n < 100) : (numS n).size ≤ 2 := by
  unfold numS
  by_cases h1 : n < 10
  · rw [Lib.decDigits_one h1]; show 1 ≤ 2; omega
  · rw [Lib.decDigits_two h1 h]; exact Nat.le_refl 2
theorem ba (x : ByteArray) (l : List UInt8) (h : x.data.toList = l) : x = ⟨l.toArray⟩ := by
  subst h
  cases x
  simp
set_option maxRecDepth 100000 in
set_option maxHeartbeats 2000000 in
set_option maxRecDepth 100000 in
theorem small (i : Nat) (h : i < 100) (w : World) : Calls Tryd.prog 39 #[.int .i64 i] w fun e w' => e = .returned (.string (numS i)) ∧ w = w' := by
  unfold numS
  go_enter Tryd.func39, Tryd.ntmps39
  go_name_bytes_deep 45 SM hSM
  have eSM : SM = Lib.smalls := by rw [← hSM]; decide +kernel
  subst eSM
  clear hSM
  go_name_bytes_deep 30 DG hDG
  have eDG : DG = Lib.digits36 := by rw [← hDG]; decide +kernel
  subst eDG
  clear hDG
  by_cases h10 : i < 10
  · have hsl : ∀ w, (Instr.slice 9 (.string Lib.digits36) (some (.int .i64 (i : Int))) (some (.int .i64 ((i : Int) + 1))) none).run Tryd.prog w = .ok (.string (Lib.digits36.extract i (i + 1))) w := fun w => by
      rw [run_slice_string w 9 Lib.digits36 .i64 .i64 _ _ (by kernel_rfl) (by omega) (by omega) (by rw [Lib.digits36_size]; omega), show ((i : Int)).toNat = i by omega, show ((i : Int) + 1).toNat = i + 1 by omega]
    go_wp2
    go_ret
    refine ⟨?_, rfl⟩
    show Ending.returned (Value.string (Lib.digits36.extract i (i + 1))) = _
    rw [ba (Lib.digits36.extract i (i + 1)) (Lib.decDigits i) (by rw [Lib.extract_data]; exact Lib.digits36_piece h10)]
  · have hsl : ∀ w, (Instr.slice 9 (.string Lib.smalls) (some (.int .i64 ((i : Int) * 2))) (some (.int .i64 ((i : Int) * 2 + 2))) none).run Tryd.prog w = .ok (.string (Lib.smalls.extract (i * 2) (i * 2 + 2))) w := fun w => by
      rw [run_slice_string w 9 Lib.smalls .i64 .i64 _ _ (by kernel_rfl) (by omega) (by omega) (by rw [Lib.smalls_size]; omega), show ((i : Int) * 2).toNat = i * 2 by omega, show ((i : Int) * 2 + 2).toNat = i * 2 + 2 by omega]
    go_wp2
    go_ret
    refine ⟨?_, rfl⟩
    show Ending.returned (Value.string (Lib.smalls.extract (i * 2) (i * 2 + 2))) = _
    rw [ba (Lib.smalls.extract (i * 2) (i * 2 + 2)) (Lib.decDigits i) (by rw [Lib.extract_data]; exact Lib.smalls_piece h10 h)]
set_option maxRecDepth 100000 in
theorem formatInt (i : Nat) (h : i < 100) (w : World) : Calls Tryd.prog 37 #[.int .i64 i, .int .i64 10] w fun e w' => e = .returned (.string (numS i)) ∧ w = w' := by
  go_enter Tryd.func37, Tryd.ntmps37
  go_wp2_with fail
  (with_reducible refine (small i h _).mono ?_)
  rintro e w' ⟨rfl, rfl⟩
  go_wp2
  go_ret
  exact ⟨rfl, rfl⟩
theorem itoaIn (i : Nat) (h : i < 100) (w : World) : Calls Tryd.prog 34 #[.int .i64 i] w fun e w' => e = .returned (.string (numS i)) ∧ w = w' := by
  go_enter Tryd.func34, Tryd.ntmps34
  go_wp2_with fail
  (with_reducible refine (formatInt i h _).mono ?_)
  rintro e w' ⟨rfl, rfl⟩
  go_wp2
  go_ret
  exact ⟨rfl, rfl⟩
theorem itoa (i : Nat) (h : i < 100) (w : World) : Calls Tryd.prog 27 #[.int .i64 i] w fun e w' => e = .returned (.string (numS i)) ∧ w = w' := by
  go_enter Tryd.func27, Tryd.ntmps27
  go_wp2_with fail
  (with_reducible refine (itoaIn i h _).mono ?_)
  rintro e w' ⟨rfl, rfl⟩
  go_wp2
  go_ret
  exact ⟨rfl, rfl⟩
theorem dec_one {i : Nat} (h : i < 10) : numS i = ⟨#[UInt8.ofNat (48 + i)]⟩ := by unfold numS; rw [Lib.decDigits_one h]
theorem byte_is {i : Nat} (h : i < 10) : ((UInt8.ofNat (48 + i)).toNat : Int) = 48 + (i : Int) := by
  have : (UInt8.ofNat (48 + i)).toNat = 48 + i := by simp; omega
  rw [this]; omega
theorem one_byte_at (i : Nat) (h : i < 10) (W : World) (B : Nat) (hc : W.cell? ⟨B, 0, none⟩ = some (.int .u8 (48 + (i : Int)))) : (convert 36 9 (.slice (some ⟨B, 0, none⟩) 1 1)).run Tryd.prog W = .ok (.string (numS i)) W := by
  rw [dec_one h]
  refine run_convert_bytes_back (P := Tryd.prog) W 36 9 5 ⟨B, 0, none⟩ 1 [UInt8.ofNat (48 + i)] (by kernel_rfl) (by kernel_rfl) (by kernel_rfl) ?_
  intro j hj
  have hj0 : j = 0 := by simp at hj; exact hj
  subst hj0
  show W.cell? ⟨B, 0, none⟩ = some (.int .u8 ((UInt8.ofNat (48 + i)).toNat : Int))
  rw [byte_is h]
  exact hc
/-- one byte turned into a text -/
theorem one_byte (i : Nat) (h : i < 10) (w : World) : (convert 36 9 (.slice (some ⟨w.heap.size, 0, none⟩) 1 1)).run Tryd.prog (w.alloc (.cells #[.int .u8 (48 + (i : Int))] 5)) = .ok (.string (numS i)) (w.alloc (.cells #[.int .u8 (48 + (i : Int))] 5)) :=
  one_byte_at i h _ w.heap.size (by simp [World.cell?_alloc_at])
set_option maxRecDepth 100000 in
set_option maxHeartbeats 2000000 in
theorem dec1 (i : Nat) (h : i < 10) (w : World) : Calls Tryd.prog 31 #[.int .i64 i] w (Gives (.string (numS i)) w) := by
  have h0 : (0 : Int) ≤ (i : Int) := by omega
  have hb := fun W => one_byte i h W
  go_enter Tryd.func31, Tryd.ntmps31
  go_wp2
  go_ret
  exact ⟨rfl, (by repeat (first | (with_reducible refine Below.drew ?_) | (with_reducible refine below_drewN ?_ _) | (with_reducible refine Below.alloc ?_ ?_ _) | (with_reducible refine Below.setCell ?_ ?_ _) | (with_reducible assumption) | (with_reducible exact Below.refl _ _) | omega | (simp <;> omega)))⟩
set_option maxRecDepth 100000 in
set_option maxHeartbeats 2000000 in
theorem dec2 (i : Nat) (h1 : ¬ i < 10) (h2 : i < 100) (w : World) : Calls Tryd.prog 31 #[.int .i64 i] w (Gives (.string (numS i)) w) := by
  have h0 : (0 : Int) ≤ (i : Int) := by omega
  have hn : ¬ (i : Int) < 10 := by omega
  obtain ⟨a, b, ha, hb, rfl⟩ : ∃ a b : Nat, a < 10 ∧ b < 10 ∧ i = 10 * a + b := ⟨i / 10, i % 10, by omega, by omega, by omega⟩
  have hby := one_byte b hb w
  have hbz := one_byte_at b hb (w.alloc (.cells #[.int .u8 (48 + (b : Int))] 5)).drew w.heap.size (by show (w.alloc _).cell? _ = _; simp [World.cell?_alloc_at])
  have hd := Lib.hid (fun W => dec1 a ha W)
  have hs : numS (10 * a + b) = numS a ++ numS b := by
    have h3 : ¬ 10 * a + b < 10 := h1
    unfold numS
    rw [Lib.decDigits_two h1 h2, Lib.decDigits_one ha, Lib.decDigits_one hb, show (10 * a + b) / 10 = a by omega, show (10 * a + b) % 10 = b by omega]
    rfl
  have z1 := numS_size a (by omega)
  have z2 := numS_size b (by omega)
  have hsz : (9223372036854775807 < (numS a).size + (numS b).size) = False := by simp; omega
  rw [hs]
  have hx : ¬ 10 * (a : Int) + (b : Int) < 10 := by omega
  have hq : (10 * (a : Int) + (b : Int)).tdiv 10 = (a : Int) := by rw [Int.tdiv_eq_ediv_of_nonneg (by omega)]; omega
  have hr : (10 * (a : Int) + (b : Int)).tmod 10 = (b : Int) := by rw [Int.tmod_eq_emod_of_nonneg (by omega)]; omega
  have hw1 : IntKind.i64.wrap (a : Int) = (a : Int) := IntWalk.i64_in _ (by omega)
  have hw2 : IntKind.i64.wrap (48 + (b : Int)) = 48 + (b : Int) := IntWalk.i64_in _ (by omega)
  have hw3 : IntKind.u8.wrap (48 + (b : Int)) = 48 + (b : Int) := IntWalk.u8_in _ (by omega)
  clear h0 hn h1 h2 hs
  go_enter Tryd.func31, Tryd.ntmps31
  go_wp2_with fail
  go_region_with
    (first | (go_at_call 31; (with_reducible refine (hd.out _).mono ?_); rintro e w1 ⟨rfl, b1⟩; have B1 : Below w.heap.size w w1 := Below.trans (by repeat (first | (with_reducible refine Below.drew ?_) | (with_reducible refine below_drewN ?_ _) | (with_reducible refine Below.alloc ?_ ?_ _) | (with_reducible refine Below.setCell ?_ ?_ _) | (with_reducible assumption) | (with_reducible exact Below.refl _ _) | omega | (simp <;> omega))) (b1.mono (by first | omega | (simp <;> omega))); have hby1 := one_byte b hb w1; (try (have hby2 : (convert 36 9 (.slice (some ⟨w.heap.size, 0, none⟩) 1 1)).run Tryd.prog w1 = .ok (.string (numS b)) w1 := (by first | exact one_byte_at b hb w1 w.heap.size ((b1.cell (p := ⟨w.heap.size, 0, none⟩) (by first | (simp; done) | omega)).trans (by first | (simp [World.cell?_alloc_at]; done) | (show (w.alloc _).cell? _ = _; simp [World.cell?_alloc_at]; done))) | fail))); have hs1 := B1.size; skip))
  all_goals go_wp2_with fail
  all_goals go_ret
  all_goals exact ⟨rfl, (by repeat (first | (with_reducible refine Below.drew ?_) | (with_reducible refine below_drewN ?_ _) | (with_reducible refine Below.alloc ?_ ?_ _) | (with_reducible refine Below.setCell ?_ ?_ _) | (with_reducible assumption) | (with_reducible exact Below.refl _ _) | omega | (simp <;> omega)))⟩
end Go.Proofs.YtdjjfdgdmdcbaaaDoor.Text
