/-
  Ways to divide things into groups, and the sum of a symbol: the reference's.
-/
import Derived.Test.YthinhhfegflmmaaDelta
import Derived.Test.YthinhhfegflmmaaOpenRows
namespace Go.Proofs.Ythinhhfegflmmaa.Ways
open Go.RowKit Go.Proofs.Ythinhhfegflmmaa.RatP Go.Proofs.Ythinhhfegflmmaa.ChoP Go.Proofs.Ythinhhfegflmmaa.StrP Go.Proofs.Ythinhhfegflmmaa.Spin Go.Proofs.Ythinhhfegflmmaa.Row Go.Proofs.Ythinhhfegflmmaa.Later Go.Proofs.Ythinhhfegflmmaa.Fact Go.Proofs.Ythinhhfegflmmaa.Delta
set_option linter.unusedVariables false
set_option linter.unusedSimpArgs false

/-- the product of the first j numbers -/
def wp : Int → List Int → Nat → Int
  | _, _, 0 => 1
  | _, [], _ + 1 => 1
  | l, x :: xs, j + 1 => choI l x * wp (l - x) xs j
theorem wp_zero (l : Int) (g : List Int) : wp l g 0 = 1 := by cases g <;> rfl
theorem wp_succ (g : List Int) (j : Nat) (l : Int) (hj : j < g.length) : wp l g (j + 1) = wp l g j * choI (l - total (g.take j)) g[j] := by
  induction g generalizing j l with
  | nil => simp at hj
  | cons x xs ih =>
    cases j with
    | zero => simp [wp, wp_zero, total]
    | succ j =>
      have h := ih j (l - x) (by simpa using hj)
      simp only [wp, List.take_succ_cons, total, List.getElem_cons_succ] at h ⊢
      rw [h, Int.mul_assoc, show l - x - total (List.take j xs) = l - (x + total (List.take j xs)) by omega]
theorem wp_all (g : List Int) (l : Int) : wp l g g.length = waysFrom l g := by
  induction g generalizing l with
  | nil => rfl
  | cons x xs ih => simp only [List.length_cons, wp, waysFrom, ih]
theorem total_take (g : List Int) (j : Nat) (hj : j < g.length) : total (g.take (j + 1)) = total (g.take j) + g[j] := by
  rw [List.take_succ_eq_append_getElem hj, total_append]; simp [total]
theorem ways_no {g : List Int} {j : Nat} (hj : j < g.length) (h : g[j] < 0) : StrP.ways g = 0 := by
  unfold StrP.ways
  rw [if_pos]
  exact List.any_eq_true.2 ⟨g[j], List.getElem_mem hj, decide_eq_true h⟩
theorem ways_yes {g : List Int} (h : ∀ j (hj : j < g.length), 0 ≤ g[j]) : StrP.ways g = wp (total g) g g.length := by
  unfold StrP.ways
  rw [if_neg, wp_all]
  intro hc
  obtain ⟨x, hx, h1⟩ := List.any_eq_true.1 hc
  obtain ⟨j, hj, rfl⟩ := List.mem_iff_getElem.1 hx
  have := h j hj
  have := of_decide_eq_true h1
  omega

/-- groups whose reckoning stays small -/
def Fine (g : List Int) : Prop := (∀ j (hj : j < g.length), -1000 ≤ g[j] ∧ g[j] ≤ 1000) ∧ ((∀ j (hj : j < g.length), 0 ≤ g[j]) → ∀ j, j ≤ g.length → (0 ≤ total g - total (g.take j) ∧ total g - total (g.take j) ≤ 12) ∧ -1000000000 ≤ wp (total g) g j ∧ wp (total g) g j ≤ 1000000000)
def fineB (g : List Int) : Bool := g.all (fun x => decide (-1000 ≤ x ∧ x ≤ 1000)) && (g.any (fun x => decide (x < 0)) || (List.range 8).all fun j => decide ((0 ≤ total g - total (g.take j) ∧ total g - total (g.take j) ≤ 12) ∧ -1000000000 ≤ wp (total g) g j ∧ wp (total g) g j ≤ 1000000000))
theorem fine_of {g : List Int} (hl : g.length = 7) (h : fineB g = true) : Fine g := by
  unfold fineB at h
  rw [Bool.and_eq_true] at h
  obtain ⟨h1, h2⟩ := h
  refine ⟨fun j hj => of_decide_eq_true (List.all_eq_true.1 h1 _ (List.getElem_mem hj)), fun hn j hj => ?_⟩
  rw [Bool.or_eq_true] at h2
  rcases h2 with h2 | h2
  · obtain ⟨x, hx, h3⟩ := List.any_eq_true.1 h2
    obtain ⟨i, hi, rfl⟩ := List.mem_iff_getElem.1 hx
    have := hn i hi
    have := of_decide_eq_true h3
    omega
  · exact of_decide_eq_true (List.all_eq_true.1 h2 j (List.mem_range.2 (by omega)))
theorem groups_fine : every6 (fun a b c d e => (List.range 13).all fun t => fineB (groups a b c d e 2 t)) = true := by decide +kernel

set_option maxRecDepth 100000 in
set_option maxHeartbeats 4000000 in
theorem sWays (g : List Int) (hl : g.length = 7) (b c : Nat) (hc : 7 ≤ c) (hcm : c ≤ maxLen) (w : World) (hcell : ∀ j (hj : j < g.length), w.cell? ⟨b, j, none⟩ = some (.int .i64 g[j])) (hg : Fine g) :
    Calls Try.prog 88 #[.slice (some ⟨b, 0, none⟩) 7 c] w fun e w' => e = .returned (.int .i64 (StrP.ways g)) ∧ w = w' := by
  unfold maxLen at hcm
  have HC := Lib.hid hcell
  have HG := Lib.hid hg
  have HL := Lib.hid hl
  obtain ⟨R, hR⟩ : ∃ R, R = StrP.ways g := ⟨_, rfl⟩
  have HR := Lib.hid hR
  rw [← hR]
  clear hcell hg hl hR
  go_enter Try.func88, Try.ntmps88
  go_wp2
  go_loopw [3, 4] (fun l i wr => ∃ (m : Nat) (s : Int), m ≤ 7 ∧ l = .int .i64 s ∧ i = .int .i64 m ∧ -(1000 * (m : Int)) ≤ s ∧ s ≤ 1000 * (m : Int) ∧ Hid (s = total (g.take m) ∧ ∀ j (hj : j < g.length), j < m → 0 ≤ g[j]) ∧ w = wr) (fun _ i _ => 7 - (intOf i).toNat)
  case atStart => exact ⟨0, 0, by omega, rfl, rfl, by omega, by omega, Lib.hid ⟨rfl, fun j _ h => absurd h (Nat.not_lt_zero j)⟩, rfl⟩
  case round =>
    obtain ⟨m, s, hm, rfl, rfl, hs1, hs2, hT, rfl⟩ := hrel
    by_cases hlt : m < 7
    · have hltI : (m : Int) < 7 := by omega
      have hml : m < g.length := by have := HL.out; omega
      have u0 := HC.out m hml
      obtain ⟨x1, x2⟩ := HG.out.1 m hml
      have HTT := Lib.hid (total_take g m hml)
      have HNO := Lib.hid (fun h => ways_no (g := g) (j := m) hml h)
      have HAL := Lib.hid (fun (h : 0 ≤ g[m]) => (fun j hj hjm => by
        rcases Nat.lt_or_ge j m with h1 | h1
        · exact hT.out.2 j hj h1
        · obtain rfl : j = m := by omega
          exact h : ∀ j (hj : j < g.length), j < m + 1 → 0 ≤ g[j]))
      generalize g[m] = y at *
      by_cases hy : y < 0
      · have HF := Lib.hid (HR.out.trans (HNO.out hy))
        clear HNO HAL HTT
        go_wp2
        go_ret
        exact ⟨ret_int HF.out.symm, rfl⟩
      · have HAL2 := Lib.hid (HAL.out (by omega))
        clear HNO HAL
        go_wp2
        go_roundw
        case rel => exact ⟨m + 1, _, by omega, rfl, by go_num, by omega, by omega, Lib.hid ⟨by rw [HTT.out, hT.out.1], HAL2.out⟩, trivial⟩
        case measure => simp [intOf]; omega
    · have hm7 : m = 7 := by omega
      have hltI : ¬ ((m : Int) < 7) := by omega
      have hnn : ∀ j (hj : j < g.length), 0 ≤ g[j] := fun j hj => hT.out.2 j hj (by have := HL.out; omega)
      have hW := HG.out.2 hnn
      have hF := HR.out.trans (ways_yes hnn)
      rw [HL.out] at hF
      have HF := Lib.hid hF
      have HW := Lib.hid (fun j (hj : j ≤ 7) => hW j (by have := HL.out; omega))
      have hs := hT.out.1
      rw [List.take_of_length_le (by have := HL.out; omega)] at hs
      have HS := Lib.hid hs
      clear hnn hW hF hs hT hm7
      go_wp2
      go_loopw [3, 5, 6] (fun l o i wr => ∃ (m : Nat) (s q : Int), m ≤ 7 ∧ l = .int .i64 s ∧ o = .int .i64 q ∧ i = .int .i64 m ∧ 0 ≤ s ∧ s ≤ 12 ∧ -1000000000 ≤ q ∧ q ≤ 1000000000 ∧ Hid (s = total g - total (g.take m) ∧ q = wp (total g) g m) ∧ w = wr) (fun _ _ i _ => 7 - (intOf i).toNat)
      case atStart =>
        have h0 := (HW.out 0 (by omega)).1
        have e0 : total g - total (g.take 0) = s := by rw [HS.out]; simp [total]
        rw [e0] at h0
        exact ⟨0, s, 1, by omega, rfl, rfl, rfl, h0.1, h0.2, by omega, by omega, Lib.hid ⟨e0.symm, (wp_zero _ _).symm⟩, rfl⟩
      case round =>
        obtain ⟨m, s', q, hm, rfl, rfl, rfl, hs1', hs2', hq1, hq2, hT, rfl⟩ := hrel
        by_cases hlt : m < 7
        · have hltI : (m : Int) < 7 := by omega
          have hml : m < g.length := by have := HL.out; omega
          have u0 := HC.out m hml
          obtain ⟨x1, x2⟩ := HG.out.1 m hml
          have HTT := Lib.hid (total_take g m hml)
          have HWS := Lib.hid (wp_succ g m (total g) hml)
          obtain ⟨⟨n1, n2⟩, n3, n4⟩ := HW.out (m + 1) (by omega)
          have hCH := fun W => sChoose s' g[m] W hs1' hs2' (by omega) (by omega)
          have e1 : q * choI s' g[m] = wp (total g) g (m + 1) := by rw [HWS.out, hT.out.2, ← hT.out.1]
          have e2 : s' - g[m] = total g - total (g.take (m + 1)) := by rw [HTT.out, hT.out.1]; omega
          rw [← e1] at n3 n4
          rw [← e2] at n1 n2
          have HE1 := Lib.hid e1
          have HE2 := Lib.hid e2
          have HCH := Lib.hid hCH
          clear e1 e2 hCH
          generalize g[m] = y at *
          generalize choI s' y = ch at *
          go_wp2_with fail
          (with_reducible refine (HCH.out _).mono ?_)
          rintro e w' ⟨rfl, rfl⟩
          go_wp2
          go_roundw
          case rel => exact ⟨m + 1, _, _, by omega, rfl, rfl, by go_num, n1, n2, n3, n4, Lib.hid ⟨HE2.out, HE1.out⟩, trivial⟩
          case measure => simp [intOf]; omega
        · obtain rfl : m = 7 := by omega
          have HFF := Lib.hid (hT.out.2.trans HF.out.symm)
          clear hT
          go_wp2
          go_ret
          exact ⟨ret_int HFF.out, rfl⟩

end Go.Proofs.Ythinhhfegflmmaa.Ways
