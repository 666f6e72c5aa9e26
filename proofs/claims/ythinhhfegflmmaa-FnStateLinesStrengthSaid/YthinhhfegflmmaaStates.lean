/-
  Contracts of StatesOf, the program's and the reference's.
-/
import Derived.Test.YthinhhfegflmmaaCoupled
namespace Go.Proofs.Ythinhhfegflmmaa.States
open Go.RowKit Go.Proofs.Ythinhhfegflmmaa.Spin Go.Proofs.Ythinhhfegflmmaa.Row Go.Proofs.Ythinhhfegflmmaa.Coupled
set_option linter.unusedVariables false
set_option linter.unusedSimpArgs false

theorem infoState : (Try.prog.info? 44).map (fun i => (i.zero, i.size, i.bytes)) = some (some (.agg #[.int .i64 0, .int .i64 0, .int .i64 0, .bool false]), 4, 32) := by kernel_rfl

def encS (s l : Int) (o : Bool) (j : Int) : List Value := [.int .i64 s, .int .i64 l, .int .i64 j, .bool o]
theorem encS_len (s l : Int) (o : Bool) (j : Int) : (encS s l o j).length = 4 := rfl

theorem levelJs_le (s l : Int) : (levelJs s l).length ≤ 25 := by
  by_cases h : termOk s l = true
  · rw [levelJs_yes h, coupled_len]; exact count_le h
  · rw [levelJs_no (by simpa using h)]; simp

/-- the cells of the k-th level in its row -/
theorem level_cells {w : World} {s l : Int} {js : List Int} {b o : Nat} (hcell : ∀ j, j < js.length * 3 → w.cell? ⟨b, o + j, none⟩ = (js.flatMap (encL s l))[j]?) (k : Nat) (hk : k < js.length) :
    w.cell? ⟨b, o + k * 3, none⟩ = some (.int .i64 s) ∧ w.cell? ⟨b, o + k * 3 + 1, none⟩ = some (.int .i64 l) ∧ w.cell? ⟨b, o + k * 3 + 2, none⟩ = some (.int .i64 js[k]) := by
  have g := fun j (hj : j < 3) => (hcell (k * 3 + j) (by omega)).trans (flat_get (encL s l) 3 (encL_len s l) js k j hk hj)
  exact ⟨g 0 (by omega), g 1 (by omega), g 2 (by omega)⟩

set_option maxRecDepth 100000 in
set_option maxHeartbeats 1000000 in
theorem iStatesOf (s l : Int) (odd : Bool) (w : World) :
    Calls Try.prog 50 #[.agg #[.int .i64 s, .int .i64 l], .bool odd] w (GivesRow 44 4 (levelJs s l).length ((levelJs s l).flatMap (encS s l odd)) w) := by
  obtain ⟨i0, hi, hz0, hz1, hz2⟩ := info_parts infoState
  have HI := Lib.hid hi
  have HZ0 := Lib.hid hz0
  have HZ1 := Lib.hid hz1
  have HZ2 := Lib.hid hz2
  clear hi hz0 hz1 hz2
  have hcm := levelJs_le s l
  go_enter Try.func50, Try.ntmps50
  go_wp2_with fail
  (with_reducible refine (iLevelsOf _ _ _).mono ?_)
  rintro e w2 ⟨v, rfl, hown2, b2⟩
  have B2 : Below w.heap.size w w2 := Below.trans (by repeat (first | (with_reducible refine Below.drew ?_) | (with_reducible refine below_drewN ?_ _) | (with_reducible refine Below.alloc ?_ ?_ _) | (with_reducible refine Below.setCell ?_ ?_ _) | (with_reducible assumption) | (with_reducible exact Below.refl _ _) | omega | (simp <;> omega))) (b2.mono (by simp))
  have hS := Sees.of_own hown2
  generalize levelJs s l = js at *
  obtain ⟨n, hn⟩ : ∃ n, n = js.length := ⟨_, rfl⟩
  have HN := Lib.hid hn
  rw [← hn] at hS hcm ⊢
  clear b2 hown2 hn
  rcases hS.2 with ⟨rfl, a, c, rfl⟩ | ⟨b, o, c, rfl, hnc, hcm', hb, hcell⟩
  · have HJ := Lib.hid (List.eq_nil_of_length_eq_zero HN.out.symm)
    clear hS
    go_wp2
    go_loopw [5, 11] (fun v i wr => v = .slice none 0 0 ∧ i = .int .i64 0 ∧ wr = w2) (fun _ _ _ => 0)
    case atStart => exact ⟨rfl, rfl, rfl⟩
    case round =>
      obtain ⟨rfl, rfl, rfl⟩ := hrel
      go_wp2
      go_ret
      exact ⟨_, rfl, by rw [HJ.out]; exact World.ownsRow_nil _ _ _ _, B2⟩
  · unfold maxLen at hcm'
    have TC := Lib.hid hcell
    clear hcell hS
    go_wp2
    go_loopw [5, 11] (fun v i wr => ∃ k : Nat, k ≤ n ∧ i = .int .i64 k ∧ wr.ownsRow w2.heap.size 44 4 v k ((js.take k).flatMap (encS s l odd)) ∧ Below w2.heap.size w2 wr) (fun _ i _ => n - (intOf i).toNat)
    case atStart => exact ⟨0, by omega, rfl, World.ownsRow_nil _ _ _ _, Below.refl _ _⟩
    case round =>
      obtain ⟨k, hk, rfl, hown, hB⟩ := hrel
      have hs2 := hB.size
      by_cases hlt : k < n
      · have hkl : k < js.length := by have := HN.out; omega
        obtain ⟨u0, u1, u2⟩ := level_cells (s := s) (l := l) (js := js) (b := b) (o := o) (w := wr) (fun j hj => (hB.cell (p := ⟨b, o + j, none⟩) hb).trans (TC.out j (by have := HN.out; omega))) k hkl
        have HF := Lib.hid (flat_take (encS s l odd) js k hkl)
        generalize js[k] = jk at *
        go_wp2_with (at_builtin; refine wpList_append_own _ rfl _ _ 74 rfl w2.heap.size 44 i0 (.agg #[.int .i64 0, .int .i64 0, .int .i64 0, .bool false]) 4 32 Try.underlying74 HI.out HZ0.out HZ1.out HZ2.out rfl (by decide) _ _ _ rfl ((hown.alloc _).alloc _) ⟨wr.heap.size + 1, 0, none⟩ 1 1 [.int .i64 s, .int .i64 l, .int .i64 jk, .bool odd] rfl rfl (by have h := cells_new (wr.alloc (.cells #[.int .i64 s, .int .i64 l, .int .i64 jk] 26)) [.int .i64 s, .int .i64 l, .int .i64 jk, .bool odd] 44; simpa using h) (by simp [Value.oneCell']) (by unfold maxLen; omega) (by omega) (by simp; omega) ?_)
        intro v' w1 hown' hgrow _
        have b1 := own_step (hB.alloc hB.size _) (Nat.le_refl _) hgrow (fun k hk => (hown.lt k hk).1)
        have hown1 : w1.ownsRow w2.heap.size 44 4 v' (k + 1) ((js.take (k + 1)).flatMap (encS s l odd)) := by rw [HF.out]; exact hown'
        clear hgrow hown hB hown' u0 u1 u2
        go_wp2
        go_roundw
        case rel => exact ⟨k + 1, by omega, by go_num, hown1, b1⟩
        case measure => simp [intOf]; omega
      · obtain rfl : k = n := by omega
        go_wp2
        go_ret
        refine ⟨_, rfl, own_base ?_ B2.size, B2.trans (hB.mono B2.size)⟩
        have e : js.take k = js := List.take_of_length_le (by have := HN.out; omega)
        rw [e] at hown
        rw [← HN.out]
        exact hown

set_option maxRecDepth 100000 in
set_option maxHeartbeats 1000000 in
theorem sStatesOf (s l : Int) (odd : Bool) (w : World) :
    Calls Try.prog 51 #[.agg #[.int .i64 s, .int .i64 l], .bool odd] w (GivesRow 44 4 (levelJs s l).length ((levelJs s l).flatMap (encS s l odd)) w) := by
  obtain ⟨i0, hi, hz0, hz1, hz2⟩ := info_parts infoState
  have HI := Lib.hid hi
  have HZ0 := Lib.hid hz0
  have HZ1 := Lib.hid hz1
  have HZ2 := Lib.hid hz2
  clear hi hz0 hz1 hz2
  have own0 : ((w.alloc (.cells #[.int .i64 s, .int .i64 l] 24)).alloc (.cells #[] 44)).ownsRow w.heap.size 44 4 (.slice (some ⟨w.heap.size + 1, 0, none⟩) 0 0) 0 [] := by
    have h := World.ownsRow_lit (base := w.heap.size) (e := 44) (size := 4) (w.alloc (.cells #[.int .i64 s, .int .i64 l] 24)) #[] 0 (by simp) (by decide) rfl
    simpa using h
  have HO := Lib.hid own0
  clear own0
  have hcm := levelJs_le s l
  go_enter Try.func51, Try.ntmps51
  go_wp2_with fail
  (with_reducible refine (sLevelsOf _ _ _).mono ?_)
  rintro e w2 ⟨v, rfl, hown2, b2⟩
  have HO2 := Lib.hid (own_below HO.out b2 (Nat.le_refl _))
  have B2 : Below w.heap.size w w2 := Below.trans (by repeat (first | (with_reducible refine Below.drew ?_) | (with_reducible refine below_drewN ?_ _) | (with_reducible refine Below.alloc ?_ ?_ _) | (with_reducible refine Below.setCell ?_ ?_ _) | (with_reducible assumption) | (with_reducible exact Below.refl _ _) | omega | (simp <;> omega))) (b2.mono (by simp; omega))
  have hlt2 : w.heap.size + 1 < w2.heap.size := by have := b2.size; simp at this; omega
  have hvb := hown2.lt
  have hS := Sees.of_own hown2
  generalize levelJs s l = js at *
  obtain ⟨n, hn⟩ : ∃ n, n = js.length := ⟨_, rfl⟩
  have HN := Lib.hid hn
  rw [← hn] at hS hcm
  clear b2 hown2 hn HO
  rcases hS.2 with ⟨rfl, a, c, rfl⟩ | ⟨b, o, c, rfl, hnc, hcm', hb, hcell⟩
  · have HJ := Lib.hid (List.eq_nil_of_length_eq_zero HN.out.symm)
    clear hS hvb
    go_wp2
    go_loopw [5, 7] (fun v i wr => v = .slice (some ⟨w.heap.size + 1, 0, none⟩) 0 0 ∧ i = .int .i64 0 ∧ wr = w2) (fun _ _ _ => 0)
    case atStart => exact ⟨rfl, rfl, rfl⟩
    case round =>
      obtain ⟨rfl, rfl, rfl⟩ := hrel
      go_wp2
      go_ret
      exact ⟨_, rfl, by rw [HJ.out]; exact HO2.out, B2⟩
  · have hbne : some b ≠ some (w.heap.size + 1) := by
      have := (hvb b rfl).1
      simp at this
      intro e
      injection e
      omega
    have HBN := Lib.hid hbne
    unfold maxLen at hcm'
    have TC := Lib.hid hcell
    clear hcell hS hvb hbne
    go_wp2
    go_loopw [5, 7] (fun v i wr => ∃ k : Nat, k ≤ n ∧ i = .int .i64 k ∧ wr.ownsRow w.heap.size 44 4 v k ((js.take k).flatMap (encS s l odd)) ∧ w2.grownBy wr (some (w.heap.size + 1)) ∧ (∀ g, v.ownBlock = some g → some g = some (w.heap.size + 1) ∨ w2.heap.size ≤ g)) (fun _ i _ => n - (intOf i).toNat)
    case atStart => exact ⟨0, by omega, rfl, HO2.out, only_refl _ _, own_at _ _ _ _⟩
    case round =>
      obtain ⟨k, hk, rfl, hown, hG, hvo⟩ := hrel
      have HV := Lib.hid hvo
      clear hvo
      have hs2 := hG.size
      by_cases hlt : k < n
      · have hkl : k < js.length := by have := HN.out; omega
        obtain ⟨u0, u1, u2⟩ := level_cells (s := s) (l := l) (js := js) (b := b) (o := o) (w := wr) (fun j hj => (only_cell hG hb HBN.out _).trans (TC.out j (by have := HN.out; omega))) k hkl
        have HF := Lib.hid (flat_take (encS s l odd) js k hkl)
        generalize js[k] = jk at *
        go_wp2_with (at_builtin; refine wpList_append_lies _ rfl _ _ 74 rfl w.heap.size 44 i0 (.agg #[.int .i64 0, .int .i64 0, .int .i64 0, .bool false]) 4 32 Try.underlying74 HI.out HZ0.out HZ1.out HZ2.out rfl (by decide) _ _ _ rfl (hown.alloc _) ⟨wr.heap.size, 0, none⟩ 1 1 [.int .i64 s, .int .i64 l, .int .i64 jk, .bool odd] rfl rfl (cells_new _ _ _) (by simp [Value.oneCell']) (by omega) (by unfold maxLen; omega) (by omega) (by simp; omega) (wr.heap.size + 1) (by simp) ?_)
        intro gg cap w3 hown1 hgrow hat hltg
        have hG1 := only_step hG HV.out hgrow
        have hown3 : w3.ownsRow w.heap.size 44 4 (.slice (some ⟨gg, 0, none⟩) (k + 1) cap) (k + 1) ((js.take (k + 1)).flatMap (encS s l odd)) := by rw [HF.out]; exact hown1
        have HV3 := Lib.hid (only_at (n := k + 1) (c := cap) hG HV.out hat (by omega))
        clear hgrow hown hown1 hat HV u0 u1 u2
        go_wp2
        go_roundw
        case rel => exact ⟨k + 1, by omega, by go_num, hown3, hG1, HV3.out⟩
        case measure => simp [intOf]; omega
      · obtain rfl : k = n := by omega
        go_wp2
        go_ret
        refine ⟨_, rfl, ?_, below_only B2 hG B2.size (by rintro g ⟨⟩; omega)⟩
        have e : js.take k = js := List.take_of_length_le (by have := HN.out; omega)
        rw [e] at hown
        rw [← HN.out]
        exact hown

end Go.Proofs.Ythinhhfegflmmaa.States
