/-
  Contracts of SchemeDecays, the program's and the reference's.
-/
import Derived.Test.YthdmpiioecogpaaLinesP
import Derived.Test.YthdmpiioecogpaaLinesS
namespace Go.Proofs.Ythdmpiioecogpaa.Decays
open Go.RowKit Go.Proofs.Ythdmpiioecogpaa.Spin Go.Proofs.Ythdmpiioecogpaa.Row Go.Proofs.Ythdmpiioecogpaa.Plain Go.Proofs.Ythdmpiioecogpaa.Later Go.Proofs.Ythdmpiioecogpaa.Node Go.Proofs.Ythdmpiioecogpaa.Line Go.Proofs.Ythdmpiioecogpaa.LinesFn Go.Proofs.Ythdmpiioecogpaa.LinesS Go.Proofs.Ythdmpiioecogpaa.LinesP
set_option linter.unusedVariables false
set_option linter.unusedSimpArgs false

/-- the lines from a node -/
def decaysOf (ns : List Nd) (at' : Int) : List Ln := (linesOf ns).filter fun x => decide ((x.u : Int) = at')
theorem decays_len (ns : List Nd) (at' : Int) : (decaysOf ns at').length ≤ 144 := Nat.le_trans (List.length_filter_le _ _) (linesOf_len ns)
def partOf (l : List Ln) (at' : Int) (m : Nat) : List Ln := (l.take m).filter fun x => decide ((x.u : Int) = at')
theorem part_yes {l : List Ln} {at' : Int} {m : Nat} (hm : m < l.length) (h : (l[m].u : Int) = at') : partOf l at' (m + 1) = partOf l at' m ++ [l[m]] := by
  unfold partOf
  rw [List.take_succ_eq_append_getElem hm, List.filter_append]
  simp [h]
theorem part_no {l : List Ln} {at' : Int} {m : Nat} (hm : m < l.length) (h : ¬ (l[m].u : Int) = at') : partOf l at' (m + 1) = partOf l at' m := by
  unfold partOf
  rw [List.take_succ_eq_append_getElem hm, List.filter_append]
  simp [h]
theorem part_len (l : List Ln) (at' : Int) (m : Nat) : (partOf l at' m).length ≤ m := Nat.le_trans (List.length_filter_le _ _) (by rw [List.length_take]; omega)
theorem part_all (l : List Ln) (at' : Int) (m : Nat) (h : l.length ≤ m) : partOf l at' m = l.filter fun x => decide ((x.u : Int) = at') := by unfold partOf; rw [List.take_of_length_le h]

set_option maxRecDepth 100000 in
set_option maxHeartbeats 2000000 in
theorem iSchemeDecays (ns : List Nd) (at' : Int) (v : Value) (w : World) (hs : Sees w 3 v ns.length (ns.flatMap encN)) :
    Calls Try.prog 19 #[v, .int .i64 at'] w (GivesRow 31 3 (decaysOf ns at').length ((decaysOf ns at').flatMap encLn) w) := by
  obtain ⟨i0, hi, hz0, hz1, hz2⟩ := info_parts infoLine
  have HI := Lib.hid hi
  have HZ0 := Lib.hid hz0
  have HZ1 := Lib.hid hz1
  have HZ2 := Lib.hid hz2
  clear hi hz0 hz1 hz2
  have HL := Lib.hid (iSchemeLines ns v w hs)
  have hl144 := linesOf_len ns
  clear hs
  unfold decaysOf
  generalize linesOf ns = l at *
  go_enter Try.func19, Try.ntmps19
  go_wp2_with fail
  refine HL.out.mono ?_
  rintro e w1 ⟨v1, rfl, O1, b1⟩
  obtain ⟨n, hn⟩ : ∃ n, n = l.length := ⟨_, rfl⟩
  have HN := Lib.hid hn
  rw [← hn] at O1 hl144
  have hS := Sees.of_own O1
  have hz1 := b1.size
  skip
  clear HL hn O1
  rcases hS.2 with ⟨rfl, a, c, rfl⟩ | ⟨b, o, c, rfl, hnc, hcm, hb, hcell⟩
  · have HE := Lib.hid (List.eq_nil_of_length_eq_zero HN.out.symm)
    clear hS
    go_wp2
    go_loopw [5, 11] (fun u i wr => u = .slice none 0 0 ∧ i = .int .i64 0 ∧ wr = w1) (fun _ _ _ => 0)
    case atStart => exact ⟨rfl, rfl, rfl⟩
    case round =>
      obtain ⟨rfl, rfl, rfl⟩ := hrel
      go_wp2
      go_ret
      exact ⟨_, rfl, by rw [HE.out]; exact World.ownsRow_nil _ _ _ _, b1⟩
  · have HC := Lib.hid hcell
    unfold maxLen at hcm
    clear hS hcell
    go_wp2
    go_loopw [5, 11] (fun u i wr => ∃ (m : Nat) (v2 : Value), v2 = u ∧ m ≤ n ∧ i = .int .i64 m ∧ wr.ownsRow w1.heap.size 31 3 v2 (partOf l at' m).length ((partOf l at' m).flatMap encLn) ∧ Below w1.heap.size w1 wr) (fun _ i _ => n - (intOf i).toNat)
    case atStart => exact ⟨0, _, rfl, by omega, rfl, World.ownsRow_nil _ _ _ _, Below.refl _ _⟩
    case round =>
      obtain ⟨m, v2, rfl, hm, rfl, hown, hB⟩ := hrel
      have hsz := hB.size
      by_cases hlt : m < n
      · have hkl : m < l.length := by have := HN.out; omega
        obtain ⟨u0, u1, u2⟩ := line_cells (w := wr) (xs := l) (b := b) (o := o) (fun j hj => (hB.cell (p := ⟨b, o + j, none⟩) hb).trans (HC.out j (by have := HN.out; omega))) m hkl
        have hpl := part_len l at' m
        have HY := Lib.hid (fun h => part_yes (l := l) (at' := at') hkl h)
        have HNO := Lib.hid (fun h => part_no (l := l) (at' := at') hkl h)
        have hbw : b < wr.heap.size := by omega
        generalize l[m] = y at *
        obtain ⟨yu, yl, yn⟩ := y
        simp only at u0 u1 u2 HY HNO
        generalize hP : partOf l at' m = P at *
        obtain ⟨pl, hpl'⟩ : ∃ pl, pl = P.length := ⟨_, rfl⟩
        have HPL := Lib.hid hpl'
        rw [← hpl'] at hown hpl
        clear hpl' hP
        by_cases hy : (yu : Int) = at'
        · have HF := Lib.hid (HY.out hy)
          have hy' : ((yu : Int) == at') = true := by simpa using hy
          clear hy HY HNO
          go_wp2_with (at_builtin; refine wpList_append_own _ rfl _ _ 28 rfl w1.heap.size 31 i0 (.agg #[.int .i64 0, .int .i64 0, .int .i64 0]) 3 24 Try.underlying28 HI.out HZ0.out HZ1.out HZ2.out rfl (by decide) _ _ _ rfl ((hown.alloc _).alloc _) ⟨wr.heap.size + 1, 0, none⟩ 1 1 [.int .i64 (yu : Int), .int .i64 (yl : Int), .int .i64 yn] rfl rfl (by have h := cells_new (wr.alloc (.cells #[.int .i64 (yu : Int), .int .i64 (yl : Int), .int .i64 yn] 31)) [.int .i64 (yu : Int), .int .i64 (yl : Int), .int .i64 yn] 31; simpa using h) (by simp [Value.oneCell']) (by unfold maxLen; omega) (by omega) (by simp; omega) ?_)
          intro v' w2 hown' hgrow _
          have B2 := own_step (hB.alloc hB.size _) (Nat.le_refl _) hgrow (fun k hk => (hown.lt k hk).1)
          have O2 : w2.ownsRow w1.heap.size 31 3 v' (P ++ [(⟨yu, yl, yn⟩ : Ln)]).length ((P ++ [(⟨yu, yl, yn⟩ : Ln)]).flatMap encLn) := by
            rw [List.flatMap_append, List.length_append, ← HPL.out]
            exact hown'
          clear hown' hgrow hown u0 u1 u2
          go_wp2
          go_roundw
          case rel => exact ⟨m + 1, v', rfl, by omega, by go_num, by rw [HF.out]; exact O2, B2⟩
          case measure => simp [intOf]; omega
        · have HF := Lib.hid (HNO.out hy)
          have hy' : ((yu : Int) == at') = false := by simpa using hy
          clear hy HY HNO
          go_wp2
          go_roundw
          case rel => exact ⟨m + 1, v2, rfl, by omega, by go_num, by rw [HF.out, ← HPL.out]; exact hown.alloc _, hB.alloc hB.size _⟩
          case measure => simp [intOf]; omega
      · obtain rfl : m = n := by omega
        have HP := part_all l at' m (by have := HN.out; omega)
        rw [HP] at hown
        clear HP
        go_wp2
        go_ret
        exact ⟨_, rfl, own_base hown hz1, b1.trans (hB.mono hz1)⟩

set_option maxRecDepth 100000 in
set_option maxHeartbeats 2000000 in
theorem sSchemeDecays (ns : List Nd) (at' : Int) (v : Value) (w : World) (hs : Sees w 3 v ns.length (ns.flatMap encN)) :
    Calls Try.prog 20 #[v, .int .i64 at'] w (GivesRow 31 3 (decaysOf ns at').length ((decaysOf ns at').flatMap encLn) w) := by
  obtain ⟨i0, hi, hz0, hz1, hz2⟩ := info_parts infoLine
  have HI := Lib.hid hi
  have HZ0 := Lib.hid hz0
  have HZ1 := Lib.hid hz1
  have HZ2 := Lib.hid hz2
  clear hi hz0 hz1 hz2
  have HL := Lib.hid (sSchemeLines ns v w hs)
  have hl144 := linesOf_len ns
  clear hs
  unfold decaysOf
  generalize linesOf ns = l at *
  go_enter Try.func20, Try.ntmps20
  go_wp2_with fail
  refine HL.out.mono ?_
  rintro e w1 ⟨v1, rfl, O1, b1⟩
  obtain ⟨n, hn⟩ : ∃ n, n = l.length := ⟨_, rfl⟩
  have HN := Lib.hid hn
  rw [← hn] at O1 hl144
  have hS := Sees.of_own O1
  have hz1 := b1.size
  have HE0 := Lib.hid (own_emptyL w1 w1.heap.size (Nat.le_refl _))
  clear HL hn O1
  rcases hS.2 with ⟨rfl, a, c, rfl⟩ | ⟨b, o, c, rfl, hnc, hcm, hb, hcell⟩
  · have HE := Lib.hid (List.eq_nil_of_length_eq_zero HN.out.symm)
    clear hS
    go_wp2
    go_loopw [6, 7] (fun u i wr => u = .slice (some ⟨w1.heap.size, 0, none⟩) 0 0 ∧ i = .int .i64 0 ∧ wr = w1.alloc (.cells #[] 31)) (fun _ _ _ => 0)
    case atStart => exact ⟨rfl, rfl, rfl⟩
    case round =>
      obtain ⟨rfl, rfl, rfl⟩ := hrel
      go_wp2
      go_ret
      exact ⟨_, rfl, by rw [HE.out]; exact own_base HE0.out hz1, b1.alloc hz1 _⟩
  · have HC := Lib.hid hcell
    unfold maxLen at hcm
    clear hS hcell
    go_wp2
    go_loopw [6, 7] (fun u i wr => ∃ (m : Nat) (v2 : Value), v2 = u ∧ m ≤ n ∧ i = .int .i64 m ∧ wr.ownsRow w1.heap.size 31 3 v2 (partOf l at' m).length ((partOf l at' m).flatMap encLn) ∧ Below w1.heap.size w1 wr) (fun _ i _ => n - (intOf i).toNat)
    case atStart => exact ⟨0, _, rfl, by omega, rfl, by simpa [partOf] using HE0.out, (by repeat (first | (with_reducible refine Below.drew ?_) | (with_reducible refine below_drewN ?_ _) | (with_reducible refine Below.alloc ?_ ?_ _) | (with_reducible refine Below.setCell ?_ ?_ _) | (with_reducible assumption) | (with_reducible exact Below.refl _ _) | omega | (simp <;> omega)))⟩
    case round =>
      obtain ⟨m, v2, rfl, hm, rfl, hown, hB⟩ := hrel
      have hsz := hB.size
      by_cases hlt : m < n
      · have hkl : m < l.length := by have := HN.out; omega
        obtain ⟨u0, u1, u2⟩ := line_cells (w := wr) (xs := l) (b := b) (o := o) (fun j hj => (hB.cell (p := ⟨b, o + j, none⟩) hb).trans (HC.out j (by have := HN.out; omega))) m hkl
        have hpl := part_len l at' m
        have HY := Lib.hid (fun h => part_yes (l := l) (at' := at') hkl h)
        have HNO := Lib.hid (fun h => part_no (l := l) (at' := at') hkl h)
        have hbw : b < wr.heap.size := by omega
        generalize l[m] = y at *
        obtain ⟨yu, yl, yn⟩ := y
        simp only at u0 u1 u2 HY HNO
        generalize hP : partOf l at' m = P at *
        obtain ⟨pl, hpl'⟩ : ∃ pl, pl = P.length := ⟨_, rfl⟩
        have HPL := Lib.hid hpl'
        rw [← hpl'] at hown hpl
        clear hpl' hP
        by_cases hy : (yu : Int) = at'
        · have HF := Lib.hid (HY.out hy)
          have hy' : ((yu : Int) == at') = true := by simpa using hy
          clear hy HY HNO
          go_wp2_with (at_builtin; refine wpList_append_own _ rfl _ _ 28 rfl w1.heap.size 31 i0 (.agg #[.int .i64 0, .int .i64 0, .int .i64 0]) 3 24 Try.underlying28 HI.out HZ0.out HZ1.out HZ2.out rfl (by decide) _ _ _ rfl (hown.alloc _) ⟨wr.heap.size, 0, none⟩ 1 1 [.int .i64 (yu : Int), .int .i64 (yl : Int), .int .i64 yn] rfl rfl (cells_new _ _ _) (by simp [Value.oneCell']) (by unfold maxLen; omega) (by omega) (by simp; omega) ?_)
          intro v' w2 hown' hgrow _
          have B2 := own_step hB (Nat.le_refl _) hgrow (fun k hk => (hown.lt k hk).1)
          have O2 : w2.ownsRow w1.heap.size 31 3 v' (P ++ [(⟨yu, yl, yn⟩ : Ln)]).length ((P ++ [(⟨yu, yl, yn⟩ : Ln)]).flatMap encLn) := by
            rw [List.flatMap_append, List.length_append, ← HPL.out]
            exact hown'
          clear hown' hgrow hown u0 u1 u2
          go_wp2
          go_roundw
          case rel => exact ⟨m + 1, v', rfl, by omega, by go_num, by rw [HF.out]; exact O2, B2⟩
          case measure => simp [intOf]; omega
        · have HF := Lib.hid (HNO.out hy)
          have hy' : ((yu : Int) == at') = false := by simpa using hy
          clear hy HY HNO
          go_wp2
          go_roundw
          case rel => exact ⟨m + 1, v2, rfl, by omega, by go_num, by rw [HF.out, ← HPL.out]; exact hown, hB⟩
          case measure => simp [intOf]; omega
      · obtain rfl : m = n := by omega
        have HP := part_all l at' m (by have := HN.out; omega)
        rw [HP] at hown
        clear HP
        go_wp2
        go_ret
        exact ⟨_, rfl, own_base hown hz1, b1.trans (hB.mono hz1)⟩

end Go.Proofs.Ythdmpiioecogpaa.Decays
