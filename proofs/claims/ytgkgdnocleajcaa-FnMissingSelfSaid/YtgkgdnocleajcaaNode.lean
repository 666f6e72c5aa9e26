/-
  Nodes of a scheme: which schemes are valid; contracts of SchemeValid, the program's and the reference's.
-/
import Derived.Test.YtgkgdnocleajcaaRow
import Derived.Test.YtgkgdnocleajcaaPlain
import Derived.Test.YtgkgdnocleajcaaLater
import Derived.IntWalk
import Derived.BigGuardPart
namespace Go.Proofs.Ytgkgdnocleajcaa.Node
open Go.RowKit Go.Proofs.Ytgkgdnocleajcaa.Spin Go.Proofs.Ytgkgdnocleajcaa.Row Go.Proofs.Ytgkgdnocleajcaa.Plain Go.Proofs.Ytgkgdnocleajcaa.Later
set_option linter.unusedVariables false
set_option linter.unusedSimpArgs false

def encN (x : Nd) : List Value := [.int .i64 x.e, .int .i64 x.j, .bool x.o]
theorem encN_len (x : Nd) : (encN x).length = 3 := rfl

/-- the cells of the k-th node in its row -/
theorem node_cells {w : World} {ns : List Nd} {b o : Nat} (hcell : ∀ j, j < ns.length * 3 → w.cell? ⟨b, o + j, none⟩ = (ns.flatMap encN)[j]?) (k : Nat) (hk : k < ns.length) :
    w.cell? ⟨b, o + k * 3, none⟩ = some (.int .i64 (nth ns k).e) ∧ w.cell? ⟨b, o + k * 3 + 1, none⟩ = some (.int .i64 (nth ns k).j) ∧ w.cell? ⟨b, o + k * 3 + 2, none⟩ = some (.bool (nth ns k).o) := by
  have g := fun j (hj : j < 3) => (hcell (k * 3 + j) (by omega)).trans (flat_get encN 3 encN_len ns k j hk hj)
  have e : nth ns k = ns[k] := by simp [nth, List.getD_eq_getElem?_getD, List.getElem?_eq_getElem hk]
  rw [e]
  exact ⟨g 0 (by omega), g 1 (by omega), g 2 (by omega)⟩

theorem nodeValid (e j : Int) (o : Bool) (w : World) :
    Calls Try.prog 37 #[.agg #[.int .i64 e, .int .i64 j, .bool o]] w (Gives (.bool (nodeOk e j)) w) := by
  by_cases h1 : 0 ≤ e
  · by_cases h2 : e ≤ 200000
    · have HT := Lib.hid (show nodeOk e j = spinOk j by simp [nodeOk, spinOk, h1, h2])
      go_enter Try.func37, Try.ntmps37
      go_wp2_with fail
      (with_reducible refine (iSpinValid _ _).mono ?_)
      rintro e w' ⟨rfl, rfl⟩
      go_wp2
      go_ret
      exact ⟨ret_bool HT.out.symm, (by repeat (first | (with_reducible refine Below.drew ?_) | (with_reducible refine below_drewN ?_ _) | (with_reducible refine Below.alloc ?_ ?_ _) | (with_reducible refine Below.setCell ?_ ?_ _) | (with_reducible assumption) | (with_reducible exact Below.refl _ _) | omega | (simp <;> omega)))⟩
    · have HT := Lib.hid (show nodeOk e j = false by simp [nodeOk, h2])
      go_enter Try.func37, Try.ntmps37
      go_wp2
      go_ret
      exact ⟨ret_bool HT.out.symm, (by repeat (first | (with_reducible refine Below.drew ?_) | (with_reducible refine below_drewN ?_ _) | (with_reducible refine Below.alloc ?_ ?_ _) | (with_reducible refine Below.setCell ?_ ?_ _) | (with_reducible assumption) | (with_reducible exact Below.refl _ _) | omega | (simp <;> omega)))⟩
  · have HT := Lib.hid (show nodeOk e j = false by simp [nodeOk, h1])
    go_enter Try.func37, Try.ntmps37
    go_wp2
    go_ret
    exact ⟨ret_bool HT.out.symm, (by repeat (first | (with_reducible refine Below.drew ?_) | (with_reducible refine below_drewN ?_ _) | (with_reducible refine Below.alloc ?_ ?_ _) | (with_reducible refine Below.setCell ?_ ?_ _) | (with_reducible assumption) | (with_reducible exact Below.refl _ _) | omega | (simp <;> omega)))⟩
theorem nodeValid_yes {e j : Int} (o : Bool) (w : World) (h : nodeOk e j = true) : Calls Try.prog 37 #[.agg #[.int .i64 e, .int .i64 j, .bool o]] w (Gives (.bool true) w) := h ▸ nodeValid e j o w
theorem nodeValid_no {e j : Int} (o : Bool) (w : World) (h : nodeOk e j = false) : Calls Try.prog 37 #[.agg #[.int .i64 e, .int .i64 j, .bool o]] w (Gives (.bool false) w) := h ▸ nodeValid e j o w

theorem fits_cases (ns : List Nd) (k : Nat) (hj : 1 ≤ k → nodeOk (nth ns 0).e (nth ns 0).j = true) :
    (nodeOk (nth ns k).e (nth ns k).j = false ∧ fits ns k = false) ∨
    (nodeOk (nth ns k).e (nth ns k).j = true ∧ (0 ≤ (nth ns k).j ∧ (nth ns k).j ≤ 24) ∧ (0 ≤ (nth ns 0).j ∧ (nth ns 0).j ≤ 24) ∧
      ((((nth ns k).j % 2 != (nth ns 0).j % 2) = true ∧ fits ns k = false) ∨
       (((nth ns k).j % 2 != (nth ns 0).j % 2) = false ∧ ((k = 0 ∧ fits ns k = true) ∨ (∃ q, k = q + 1 ∧ ((decide ((nth ns (q + 1)).e ≤ (nth ns q).e) = true ∧ fits ns k = false) ∨ (decide ((nth ns (q + 1)).e ≤ (nth ns q).e) = false ∧ fits ns k = true))))))) := by
  by_cases h1 : nodeOk (nth ns k).e (nth ns k).j = true
  · refine .inr ⟨h1, (nodeOk_bounds h1).2, ?_, ?_⟩
    · by_cases hk : 1 ≤ k
      · exact (nodeOk_bounds (hj hk)).2
      · obtain rfl : k = 0 := by omega
        exact (nodeOk_bounds h1).2
    · by_cases h2 : (nth ns k).j % 2 = (nth ns 0).j % 2
      · refine .inr ⟨by simp [h2], ?_⟩
        cases k with
        | zero => exact .inl ⟨rfl, by simp [fits, h1]⟩
        | succ q =>
          refine .inr ⟨q, rfl, ?_⟩
          by_cases h3 : (nth ns (q + 1)).e ≤ (nth ns q).e
          · exact .inl ⟨by simp [h3], by simp [fits]; intros; omega⟩
          · exact .inr ⟨by simpa using h3, by simp [fits, h1, h2]; omega⟩
      · exact .inl ⟨by simp [h2], by simp [fits, h2]⟩
  · exact .inl ⟨by simpa using h1, by simp [fits, h1]⟩

theorem fits_cases2 (ns : List Nd) (k : Nat) (hj : 1 ≤ k → nodeOk (nth ns 0).e (nth ns 0).j = true) :
    (¬ (0 ≤ (nth ns k).e ∧ (nth ns k).e ≤ 200000) ∧ fits ns k = false) ∨
    ((0 ≤ (nth ns k).e ∧ (nth ns k).e ≤ 200000) ∧ ¬ (0 ≤ (nth ns k).j ∧ (nth ns k).j ≤ 24) ∧ fits ns k = false) ∨
    ((0 ≤ (nth ns k).e ∧ (nth ns k).e ≤ 200000) ∧ (0 ≤ (nth ns k).j ∧ (nth ns k).j ≤ 24) ∧ (0 ≤ (nth ns 0).j ∧ (nth ns 0).j ≤ 24) ∧ ((nth ns k).j % 2 != (nth ns 0).j % 2) = true ∧ fits ns k = false) ∨
    ((0 ≤ (nth ns k).e ∧ (nth ns k).e ≤ 200000) ∧ (0 ≤ (nth ns k).j ∧ (nth ns k).j ≤ 24) ∧ (0 ≤ (nth ns 0).j ∧ (nth ns 0).j ≤ 24) ∧ ((nth ns k).j % 2 != (nth ns 0).j % 2) = false ∧
      ((k = 0 ∧ fits ns k = true) ∨ (∃ q, k = q + 1 ∧ ((decide ((nth ns (q + 1)).e ≤ (nth ns q).e) = true ∧ fits ns k = false) ∨ (decide ((nth ns (q + 1)).e ≤ (nth ns q).e) = false ∧ fits ns k = true))))) := by
  rcases fits_cases ns k hj with ⟨h1, hf⟩ | ⟨h1, hj0, hi0, h⟩
  · by_cases he : (0 ≤ (nth ns k).e ∧ (nth ns k).e ≤ 200000)
    · refine .inr (.inl ⟨he, fun hj => ?_, hf⟩)
      have : nodeOk (nth ns k).e (nth ns k).j = true := by simp [nodeOk, he, hj]
      rw [h1] at this
      cases this
    · exact .inl ⟨he, hf⟩
  · have he := (nodeOk_bounds h1).1
    rcases h with ⟨h2, hf⟩ | ⟨h2, h⟩
    · exact .inr (.inr (.inl ⟨he, hj0, hi0, h2, hf⟩))
    · exact .inr (.inr (.inr ⟨he, hj0, hi0, h2, h⟩))

/-- what the round of SchemeValid reads -/
def Held (w' : World) (x b o : Nat) (nd : Nd) (z : Int) : Prop := w'.cell? ⟨x, 0, none⟩ = some (.int .i64 nd.e) ∧ w'.cell? ⟨x, 1, none⟩ = some (.int .i64 nd.j) ∧ w'.cell? ⟨x, 2, none⟩ = some (.bool nd.o) ∧ w'.cell? ⟨b, o + 1, none⟩ = some (.int .i64 z)

set_option maxHeartbeats 4000000 in
theorem iSchemeValid (ns : List Nd) (v : Value) (w : World) (hs : Sees w 3 v ns.length (ns.flatMap encN)) :
    Calls Try.prog 18 #[v] w (Gives (.bool (schemeOk ns)) w) := by
  obtain ⟨n, hn⟩ : ∃ n, n = ns.length := ⟨_, rfl⟩
  have HN := Lib.hid hn
  rw [← hn] at hs
  rcases hs.2 with ⟨rfl, a, c, rfl⟩ | ⟨b, o, c, rfl, hnc, hcm, hb, hcell⟩
  · have HF := Lib.hid (scheme_short (ns := ns) (by omega))
    clear hs hn
    go_enter Try.func18, Try.ntmps18
    go_wp2
    go_ret
    exact ⟨ret_bool HF.out.symm, Below.refl _ _⟩
  · unfold maxLen at hcm
    by_cases h0 : n < 1
    · have HF := Lib.hid (scheme_short (ns := ns) (by omega))
      clear hs hn hcell
      go_enter Try.func18, Try.ntmps18
      go_wp2
      go_ret
      exact ⟨ret_bool HF.out.symm, Below.refl _ _⟩
    · by_cases h12 : 12 < n
      · have HF := Lib.hid (scheme_short (ns := ns) (by omega))
        have h12' : (12 : Int) < (n : Int) := by omega
        have h0' : ¬ (n : Int) < 1 := by omega
        clear hs hn hcell
        go_enter Try.func18, Try.ntmps18
        go_wp2
        go_ret
        exact ⟨ret_bool HF.out.symm, Below.refl _ _⟩
      · have HC := Lib.hid (fun (k : Nat) (hk : k < n) => node_cells (w := w) (ns := ns) (b := b) (o := o) (fun j hj => hcell j (by omega)) k (by omega))
        obtain ⟨z0, z1, z2⟩ := HC.out 0 (by omega)
        simp only [Nat.zero_mul, Nat.add_zero] at z0 z1 z2
        clear hs hn hcell
        by_cases he : (nth ns 0).e = 0
        · have he' : ((nth ns 0).e != 0) = false := by simp [he]
          have HE := Lib.hid (show ((nth ns 0).e == 0) = true by simp [he])
          have HZ := Lib.hid z1
          clear he
          go_enter Try.func18, Try.ntmps18
          go_wp2
          clear z0 z1 z2 he'
          go_loopw [22] (fun i wr => ∃ k : Nat, k ≤ n ∧ i = .int .i64 k ∧ fitTo ns k = true ∧ Below w.heap.size w wr) (fun i _ => n - (intOf i).toNat)
          case atStart => exact ⟨0, by omega, rfl, rfl, Below.refl _ _⟩
          case round =>
            obtain ⟨k, hk, rfl, hfit, hB⟩ := hrel
            have HFT := Lib.hid hfit
            have hsz := hB.size
            clear hfit
            by_cases hlt : k < n
            · obtain ⟨c0', c1', c2'⟩ := HC.out k hlt
              have c0 := (hB.cell (p := ⟨b, o + k * 3, none⟩) hb).trans c0'
              have c1 := (hB.cell (p := ⟨b, o + k * 3 + 1, none⟩) hb).trans c1'
              have c2 := (hB.cell (p := ⟨b, o + k * 3 + 2, none⟩) hb).trans c2'
              clear c0' c1' c2'
              have hbw : b < wr.heap.size := by omega
              have hn0 : (0 : Int) < (n : Int) := by omega
              have hn1 : 0 < n := by omega
              rcases fits_cases ns k (fun h1 => by have := fitTo_at HFT.out (i := 0) (by omega); simp [fits] at this; exact this) with ⟨h1, hf⟩ | ⟨h1, ⟨j0, j1⟩, ⟨i0, i1⟩, ⟨h2, hf⟩ | ⟨h2, ⟨rfl, hf⟩ | ⟨q, rfl, ⟨h3, hf⟩ | ⟨h3, hf⟩⟩⟩⟩
              · have HF := Lib.hid (fit_no (ns := ns) (by have := HN.out; omega) hf)
                clear hf
                go_wp2_with fail
                have f0 : ∀ p : Later (wr.heap.size + 1) (wr.alloc (.cells #[.int .i64 (nth ns k).e, .int .i64 (nth ns k).j, .bool (nth ns k).o] 32)), p.W.cell? ⟨wr.heap.size, 0, none⟩ = some (.int .i64 (nth ns k).e) := Later.cell (by simp) (by omega)
                have f1 : ∀ p : Later (wr.heap.size + 1) (wr.alloc (.cells #[.int .i64 (nth ns k).e, .int .i64 (nth ns k).j, .bool (nth ns k).o] 32)), p.W.cell? ⟨wr.heap.size, 1, none⟩ = some (.int .i64 (nth ns k).j) := Later.cell (by simp) (by omega)
                have f2 : ∀ p : Later (wr.heap.size + 1) (wr.alloc (.cells #[.int .i64 (nth ns k).e, .int .i64 (nth ns k).j, .bool (nth ns k).o] 32)), p.W.cell? ⟨wr.heap.size, 2, none⟩ = some (.bool (nth ns k).o) := Later.cell (by simp) (by omega)
                have f3 : ∀ p : Later (wr.heap.size + 1) (wr.alloc (.cells #[.int .i64 (nth ns k).e, .int .i64 (nth ns k).j, .bool (nth ns k).o] 32)), p.W.cell? ⟨b, o + 1, none⟩ = some (.int .i64 (nth ns 0).j) := Later.cell ((World.cell?_alloc_lt _ _ _ (show b < wr.heap.size by omega)).trans ((hB.cell (p := ⟨b, o + 1, none⟩) hb).trans HZ.out)) (by omega)
                refine Later.wp_region_later (wr.heap.size + 1) (by kernel_rfl) (by kernel_rfl) ?_
                repeat (first | go_big_quiet_step ((go_at_call 37; exact later_gives (by simp) (nodeValid_no _ _ h1))) | quiet_step ((go_at_call 37; exact later_gives (by simp) (nodeValid_no _ _ h1))))
                refine wpQuiet_nil ?_
                rintro w1 ⟨q1, hq1⟩
                have b1 := q1.h
                rw [← hq1] at b1
                clear hq1 q1
                have B1 : Below w.heap.size w w1 := Below.trans (Below.alloc hB hB.size _) (b1.mono (by omega))
                clear f0 f1 f2 f3 b1
                go_wp2
                go_ret
                exact ⟨ret_bool HF.out.symm, B1⟩
              · have HF := Lib.hid (fit_no (ns := ns) (by have := HN.out; omega) hf)
                clear hf
                go_wp2_with fail
                have f0 : ∀ p : Later (wr.heap.size + 1) (wr.alloc (.cells #[.int .i64 (nth ns k).e, .int .i64 (nth ns k).j, .bool (nth ns k).o] 32)), p.W.cell? ⟨wr.heap.size, 0, none⟩ = some (.int .i64 (nth ns k).e) := Later.cell (by simp) (by omega)
                have f1 : ∀ p : Later (wr.heap.size + 1) (wr.alloc (.cells #[.int .i64 (nth ns k).e, .int .i64 (nth ns k).j, .bool (nth ns k).o] 32)), p.W.cell? ⟨wr.heap.size, 1, none⟩ = some (.int .i64 (nth ns k).j) := Later.cell (by simp) (by omega)
                have f2 : ∀ p : Later (wr.heap.size + 1) (wr.alloc (.cells #[.int .i64 (nth ns k).e, .int .i64 (nth ns k).j, .bool (nth ns k).o] 32)), p.W.cell? ⟨wr.heap.size, 2, none⟩ = some (.bool (nth ns k).o) := Later.cell (by simp) (by omega)
                have f3 : ∀ p : Later (wr.heap.size + 1) (wr.alloc (.cells #[.int .i64 (nth ns k).e, .int .i64 (nth ns k).j, .bool (nth ns k).o] 32)), p.W.cell? ⟨b, o + 1, none⟩ = some (.int .i64 (nth ns 0).j) := Later.cell ((World.cell?_alloc_lt _ _ _ (show b < wr.heap.size by omega)).trans ((hB.cell (p := ⟨b, o + 1, none⟩) hb).trans HZ.out)) (by omega)
                refine Later.wp_region_later (wr.heap.size + 1) (by kernel_rfl) (by kernel_rfl) ?_
                repeat (first | go_big_quiet_step ((go_at_call 37; exact later_gives (by simp) (nodeValid_yes _ _ h1))) | quiet_step ((go_at_call 37; exact later_gives (by simp) (nodeValid_yes _ _ h1))))
                refine wpQuiet_nil ?_
                rintro w1 ⟨q1, hq1⟩
                have b1 := q1.h
                rw [← hq1] at b1
                clear hq1 q1
                have B1 : Below w.heap.size w w1 := Below.trans (Below.alloc hB hB.size _) (b1.mono (by omega))
                clear f0 f1 f2 f3 b1
                go_wp2
                go_ret
                exact ⟨ret_bool HF.out.symm, B1⟩
              · have HF := Lib.hid (show fitTo ns (0 + 1) = true by rw [fitTo_succ, hf, HFT.out]; rfl)
                simp only [Nat.zero_mul, Nat.add_zero] at c0 c1 c2
                clear hf
                go_wp2_with fail
                have f0 : ∀ p : Later (wr.heap.size + 1) (wr.alloc (.cells #[.int .i64 (nth ns 0).e, .int .i64 (nth ns 0).j, .bool (nth ns 0).o] 32)), p.W.cell? ⟨wr.heap.size, 0, none⟩ = some (.int .i64 (nth ns 0).e) := Later.cell (by simp) (by omega)
                have f1 : ∀ p : Later (wr.heap.size + 1) (wr.alloc (.cells #[.int .i64 (nth ns 0).e, .int .i64 (nth ns 0).j, .bool (nth ns 0).o] 32)), p.W.cell? ⟨wr.heap.size, 1, none⟩ = some (.int .i64 (nth ns 0).j) := Later.cell (by simp) (by omega)
                have f2 : ∀ p : Later (wr.heap.size + 1) (wr.alloc (.cells #[.int .i64 (nth ns 0).e, .int .i64 (nth ns 0).j, .bool (nth ns 0).o] 32)), p.W.cell? ⟨wr.heap.size, 2, none⟩ = some (.bool (nth ns 0).o) := Later.cell (by simp) (by omega)
                have f3 : ∀ p : Later (wr.heap.size + 1) (wr.alloc (.cells #[.int .i64 (nth ns 0).e, .int .i64 (nth ns 0).j, .bool (nth ns 0).o] 32)), p.W.cell? ⟨b, o + 1, none⟩ = some (.int .i64 (nth ns 0).j) := Later.cell ((World.cell?_alloc_lt _ _ _ (show b < wr.heap.size by omega)).trans ((hB.cell (p := ⟨b, o + 1, none⟩) hb).trans HZ.out)) (by omega)
                refine Later.wp_region_later (wr.heap.size + 1) (by kernel_rfl) (by kernel_rfl) ?_
                repeat (first | go_big_quiet_step ((go_at_call 37; exact later_gives (by simp) (nodeValid_yes _ _ h1))) | quiet_step ((go_at_call 37; exact later_gives (by simp) (nodeValid_yes _ _ h1))))
                refine wpQuiet_nil ?_
                rintro w1 ⟨q1, hq1⟩
                have b1 := q1.h
                rw [← hq1] at b1
                clear hq1 q1
                have B1 : Below w.heap.size w w1 := Below.trans (Below.alloc hB hB.size _) (b1.mono (by omega))
                clear f0 f1 f2 f3 b1
                go_wp2
                go_roundw
                case rel => exact ⟨1, by omega, by go_num, HF.out, B1⟩
                case measure => simp [intOf]; omega
              · have HF := Lib.hid (fit_no (ns := ns) (by have := HN.out; omega) hf)
                clear hf
                go_wp2_with fail
                have f0 : ∀ p : Later (wr.heap.size + 1) (wr.alloc (.cells #[.int .i64 (nth ns (q + 1)).e, .int .i64 (nth ns (q + 1)).j, .bool (nth ns (q + 1)).o] 32)), p.W.cell? ⟨wr.heap.size, 0, none⟩ = some (.int .i64 (nth ns (q + 1)).e) := Later.cell (by simp) (by omega)
                have f1 : ∀ p : Later (wr.heap.size + 1) (wr.alloc (.cells #[.int .i64 (nth ns (q + 1)).e, .int .i64 (nth ns (q + 1)).j, .bool (nth ns (q + 1)).o] 32)), p.W.cell? ⟨wr.heap.size, 1, none⟩ = some (.int .i64 (nth ns (q + 1)).j) := Later.cell (by simp) (by omega)
                have f2 : ∀ p : Later (wr.heap.size + 1) (wr.alloc (.cells #[.int .i64 (nth ns (q + 1)).e, .int .i64 (nth ns (q + 1)).j, .bool (nth ns (q + 1)).o] 32)), p.W.cell? ⟨wr.heap.size, 2, none⟩ = some (.bool (nth ns (q + 1)).o) := Later.cell (by simp) (by omega)
                have f3 : ∀ p : Later (wr.heap.size + 1) (wr.alloc (.cells #[.int .i64 (nth ns (q + 1)).e, .int .i64 (nth ns (q + 1)).j, .bool (nth ns (q + 1)).o] 32)), p.W.cell? ⟨b, o + 1, none⟩ = some (.int .i64 (nth ns 0).j) := Later.cell ((World.cell?_alloc_lt _ _ _ (show b < wr.heap.size by omega)).trans ((hB.cell (p := ⟨b, o + 1, none⟩) hb).trans HZ.out)) (by omega)
                have f4 : ∀ p : Later (wr.heap.size + 1) (wr.alloc (.cells #[.int .i64 (nth ns (q + 1)).e, .int .i64 (nth ns (q + 1)).j, .bool (nth ns (q + 1)).o] 32)), p.W.cell? ⟨b, o + q * 3, none⟩ = some (.int .i64 (nth ns q).e) := Later.cell ((World.cell?_alloc_lt _ _ _ (show b < wr.heap.size by omega)).trans ((hB.cell (p := ⟨b, o + q * 3, none⟩) hb).trans (HC.out q (by omega)).1)) (by omega)
                refine Later.wp_region_later (wr.heap.size + 1) (by kernel_rfl) (by kernel_rfl) ?_
                repeat (first | go_big_quiet_step ((go_at_call 37; exact later_gives (by simp) (nodeValid_yes _ _ h1))) | quiet_step ((go_at_call 37; exact later_gives (by simp) (nodeValid_yes _ _ h1))))
                refine wpQuiet_nil ?_
                rintro w1 ⟨q1, hq1⟩
                have b1 := q1.h
                rw [← hq1] at b1
                clear hq1 q1
                have B1 : Below w.heap.size w w1 := Below.trans (Below.alloc hB hB.size _) (b1.mono (by omega))
                clear f0 f1 f2 f3 f4 b1
                go_wp2
                go_ret
                exact ⟨ret_bool HF.out.symm, B1⟩
              · have HF := Lib.hid (show fitTo ns (q + 1 + 1) = true by rw [fitTo_succ, hf, HFT.out]; rfl)
                clear hf
                go_wp2_with fail
                have f0 : ∀ p : Later (wr.heap.size + 1) (wr.alloc (.cells #[.int .i64 (nth ns (q + 1)).e, .int .i64 (nth ns (q + 1)).j, .bool (nth ns (q + 1)).o] 32)), p.W.cell? ⟨wr.heap.size, 0, none⟩ = some (.int .i64 (nth ns (q + 1)).e) := Later.cell (by simp) (by omega)
                have f1 : ∀ p : Later (wr.heap.size + 1) (wr.alloc (.cells #[.int .i64 (nth ns (q + 1)).e, .int .i64 (nth ns (q + 1)).j, .bool (nth ns (q + 1)).o] 32)), p.W.cell? ⟨wr.heap.size, 1, none⟩ = some (.int .i64 (nth ns (q + 1)).j) := Later.cell (by simp) (by omega)
                have f2 : ∀ p : Later (wr.heap.size + 1) (wr.alloc (.cells #[.int .i64 (nth ns (q + 1)).e, .int .i64 (nth ns (q + 1)).j, .bool (nth ns (q + 1)).o] 32)), p.W.cell? ⟨wr.heap.size, 2, none⟩ = some (.bool (nth ns (q + 1)).o) := Later.cell (by simp) (by omega)
                have f3 : ∀ p : Later (wr.heap.size + 1) (wr.alloc (.cells #[.int .i64 (nth ns (q + 1)).e, .int .i64 (nth ns (q + 1)).j, .bool (nth ns (q + 1)).o] 32)), p.W.cell? ⟨b, o + 1, none⟩ = some (.int .i64 (nth ns 0).j) := Later.cell ((World.cell?_alloc_lt _ _ _ (show b < wr.heap.size by omega)).trans ((hB.cell (p := ⟨b, o + 1, none⟩) hb).trans HZ.out)) (by omega)
                have f4 : ∀ p : Later (wr.heap.size + 1) (wr.alloc (.cells #[.int .i64 (nth ns (q + 1)).e, .int .i64 (nth ns (q + 1)).j, .bool (nth ns (q + 1)).o] 32)), p.W.cell? ⟨b, o + q * 3, none⟩ = some (.int .i64 (nth ns q).e) := Later.cell ((World.cell?_alloc_lt _ _ _ (show b < wr.heap.size by omega)).trans ((hB.cell (p := ⟨b, o + q * 3, none⟩) hb).trans (HC.out q (by omega)).1)) (by omega)
                refine Later.wp_region_later (wr.heap.size + 1) (by kernel_rfl) (by kernel_rfl) ?_
                repeat (first | go_big_quiet_step ((go_at_call 37; exact later_gives (by simp) (nodeValid_yes _ _ h1))) | quiet_step ((go_at_call 37; exact later_gives (by simp) (nodeValid_yes _ _ h1))))
                refine wpQuiet_nil ?_
                rintro w1 ⟨q1, hq1⟩
                have b1 := q1.h
                rw [← hq1] at b1
                clear hq1 q1
                have B1 : Below w.heap.size w w1 := Below.trans (Below.alloc hB hB.size _) (b1.mono (by omega))
                clear f0 f1 f2 f3 f4 b1
                go_wp2
                go_roundw
                case rel => exact ⟨q + 1 + 1, by omega, by go_num, HF.out, B1⟩
                case measure => simp [intOf]; omega
            · obtain rfl : k = n := by omega
              have HA := Lib.hid (scheme_all (ns := ns) (by have := HN.out; omega) (by have := HN.out; omega) HE.out (by rw [← HN.out]; exact HFT.out))
              go_wp2
              go_ret
              exact ⟨ret_bool HA.out.symm, hB⟩
        · have he2 : ((nth ns 0).e == 0) = false := by simpa using he
          have he3 : ¬ (nth ns 0).e = 0 := he
          have HF := Lib.hid (scheme_first (ns := ns) (by simpa using he))
          clear he HC
          go_enter Try.func18, Try.ntmps18
          go_wp2
          all_goals go_ret
          all_goals exact ⟨ret_bool HF.out.symm, Below.refl _ _⟩

theorem l6In_yes {n lo hi : Int} (w : World) (h : lo ≤ n ∧ n ≤ hi) : Calls Try.prog 34 #[.int .i64 n, .int .i64 lo, .int .i64 hi] w fun e w' => e = .returned (.bool true) ∧ w = w' := (inB_true.2 h) ▸ l6In n lo hi w
theorem l6In_no {n lo hi : Int} (w : World) (h : ¬ (lo ≤ n ∧ n ≤ hi)) : Calls Try.prog 34 #[.int .i64 n, .int .i64 lo, .int .i64 hi] w fun e w' => e = .returned (.bool false) ∧ w = w' := (false_of inB_true h) ▸ l6In n lo hi w
theorem sSpin_yes {j : Int} (w : World) (h : 0 ≤ j ∧ j ≤ 24) : Calls Try.prog 35 #[.int .i64 j] w fun e w' => e = .returned (.bool true) ∧ w = w' := (spinOk_true.2 h) ▸ sSpinValid j w
theorem sSpin_no {j : Int} (w : World) (h : ¬ (0 ≤ j ∧ j ≤ 24)) : Calls Try.prog 35 #[.int .i64 j] w fun e w' => e = .returned (.bool false) ∧ w = w' := (false_of spinOk_true h) ▸ sSpinValid j w

set_option maxHeartbeats 4000000 in
theorem sSchemeValid (ns : List Nd) (v : Value) (w : World) (hs : Sees w 3 v ns.length (ns.flatMap encN)) :
    Calls Try.prog 16 #[v] w (Gives (.bool (schemeOk ns)) w) := by
  obtain ⟨n, hn⟩ : ∃ n, n = ns.length := ⟨_, rfl⟩
  have HN := Lib.hid hn
  rw [← hn] at hs
  rcases hs.2 with ⟨rfl, a, c, rfl⟩ | ⟨b, o, c, rfl, hnc, hcm, hb, hcell⟩
  · have HF := Lib.hid (scheme_short (ns := ns) (by omega))
    clear hs hn
    go_enter Try.func16, Try.ntmps16
    go_wp2_with (go_at_call 34; refine (l6In_no _ (by omega)).mono ?_; rintro e w' ⟨rfl, rfl⟩)
    go_ret
    exact ⟨ret_bool HF.out.symm, Below.refl _ _⟩
  · unfold maxLen at hcm
    by_cases h0 : ¬ (1 ≤ (n : Int) ∧ (n : Int) ≤ 12)
    · have HF := Lib.hid (scheme_short (ns := ns) (by omega))
      clear hs hn hcell
      go_enter Try.func16, Try.ntmps16
      go_wp2_with (go_at_call 34; refine (l6In_no _ h0).mono ?_; rintro e w' ⟨rfl, rfl⟩)
      go_ret
      exact ⟨ret_bool HF.out.symm, Below.refl _ _⟩
    · obtain ⟨h1, h12⟩ := Decidable.not_not.1 h0
      have hn0 : 0 < n := by omega
      have HC := Lib.hid (fun (k : Nat) (hk : k < n) => node_cells (w := w) (ns := ns) (b := b) (o := o) (fun j hj => hcell j (by omega)) k (by omega))
      obtain ⟨z0, z1, z2⟩ := HC.out 0 (by omega)
      simp only [Nat.zero_mul, Nat.add_zero] at z0 z1 z2
      clear hs hn hcell h0
      by_cases he : (nth ns 0).e = 0
      · have he' : ((nth ns 0).e != 0) = false := by simp [he]
        have HE := Lib.hid (show ((nth ns 0).e == 0) = true by simp [he])
        have HZ := Lib.hid z1
        clear he
        go_enter Try.func16, Try.ntmps16
        go_wp2_with (go_at_call 34; refine (l6In_yes _ ⟨h1, h12⟩).mono ?_; rintro e w' ⟨rfl, rfl⟩)
        clear z0 z1 z2 he'
        go_loopw [3] (fun i wr => ∃ k : Nat, k ≤ n ∧ i = .int .i64 k ∧ fitTo ns k = true ∧ Below w.heap.size w wr) (fun i _ => n - (intOf i).toNat)
        case atStart => exact ⟨0, by omega, rfl, rfl, Below.refl _ _⟩
        case round =>
          obtain ⟨k, hk, rfl, hfit, hB⟩ := hrel
          have HFT := Lib.hid hfit
          have hsz := hB.size
          clear hfit
          by_cases hlt : k < n
          · obtain ⟨c0, c1, _⟩ := HC.out k hlt
            have hbw : b < wr.heap.size := by omega
            have hk1 : (k : Int) < (n : Int) := by omega
            have hk0 : (0 : Int) ≤ (k : Int) := by omega
            have hn1 : (0 : Int) < (n : Int) := by omega
            have HC0 := Lib.hid (fun (p : Later wr.heap.size wr) => Later.cell ((hB.cell (p := ⟨b, o + k * 3, none⟩) hb).trans c0) hbw p)
            have HC1 := Lib.hid (fun (p : Later wr.heap.size wr) => Later.cell ((hB.cell (p := ⟨b, o + k * 3 + 1, none⟩) hb).trans c1) hbw p)
            have HC2 := Lib.hid (fun (p : Later wr.heap.size wr) => Later.cell ((hB.cell (p := ⟨b, o + 1, none⟩) hb).trans HZ.out) hbw p)
            clear c0 c1
            rcases fits_cases2 ns k (fun h1 => by have := fitTo_at HFT.out (i := 0) (by omega); simp [fits] at this; exact this) with ⟨g1, hf⟩ | ⟨g1, g2, hf⟩ | ⟨g1, g2, i0, h2, hf⟩ | ⟨g1, g2, i0, h2, ⟨rfl, hf⟩ | ⟨q, rfl, ⟨h3, hf⟩ | ⟨h3, hf⟩⟩⟩
            · have HF := Lib.hid (fit_no (ns := ns) (by have := HN.out; omega) hf)
              clear hf
              go_wp2_with fail
              have f0 := HC0.out
              have f1 := HC1.out
              have f2 := HC2.out
              refine Later.wp_region_later (wr.heap.size) (by kernel_rfl) (by kernel_rfl) ?_
              repeat (first | go_big_quiet_step ((first | (go_at_call 34; exact later_same (l6In_no _ g1)))) | quiet_step ((first | (go_at_call 34; exact later_same (l6In_no _ g1)))))
              refine wpQuiet_nil ?_
              rintro w1 ⟨q1, hq1⟩
              have b1 := q1.h
              rw [← hq1] at b1
              clear hq1 q1
              have B1 : Below w.heap.size w w1 := Below.trans hB (b1.mono (by omega))
              clear f0 f1 f2
              go_wp2
              go_ret
              exact ⟨ret_bool HF.out.symm, B1⟩
            · have HF := Lib.hid (fit_no (ns := ns) (by have := HN.out; omega) hf)
              clear hf
              go_wp2_with fail
              have f0 := HC0.out
              have f1 := HC1.out
              have f2 := HC2.out
              refine Later.wp_region_later (wr.heap.size) (by kernel_rfl) (by kernel_rfl) ?_
              repeat (first | go_big_quiet_step ((first | (go_at_call 34; exact later_same (l6In_yes _ g1)) | (go_at_call 35; exact later_same (sSpin_no _ g2)))) | quiet_step ((first | (go_at_call 34; exact later_same (l6In_yes _ g1)) | (go_at_call 35; exact later_same (sSpin_no _ g2)))))
              refine wpQuiet_nil ?_
              rintro w1 ⟨q1, hq1⟩
              have b1 := q1.h
              rw [← hq1] at b1
              clear hq1 q1
              have B1 : Below w.heap.size w w1 := Below.trans hB (b1.mono (by omega))
              clear f0 f1 f2
              go_wp2
              go_ret
              exact ⟨ret_bool HF.out.symm, B1⟩
            · have HF := Lib.hid (fit_no (ns := ns) (by have := HN.out; omega) hf)
              clear hf
              go_wp2_with fail
              have f0 := HC0.out
              have f1 := HC1.out
              have f2 := HC2.out
              refine Later.wp_region_later (wr.heap.size) (by kernel_rfl) (by kernel_rfl) ?_
              repeat (first | go_big_quiet_step ((first | (go_at_call 34; exact later_same (l6In_yes _ g1)) | (go_at_call 35; exact later_same (sSpin_yes _ g2)))) | quiet_step ((first | (go_at_call 34; exact later_same (l6In_yes _ g1)) | (go_at_call 35; exact later_same (sSpin_yes _ g2)))))
              refine wpQuiet_nil ?_
              rintro w1 ⟨q1, hq1⟩
              have b1 := q1.h
              rw [← hq1] at b1
              clear hq1 q1
              have B1 : Below w.heap.size w w1 := Below.trans hB (b1.mono (by omega))
              clear f0 f1 f2
              go_wp2
              go_ret
              exact ⟨ret_bool HF.out.symm, B1⟩
            · have HF := Lib.hid (show fitTo ns (0 + 1) = true by rw [fitTo_succ, hf, HFT.out]; rfl)
              simp only [Nat.zero_mul, Nat.add_zero] at HC0 HC1
              clear hf
              go_wp2_with fail
              have f0 := HC0.out
              have f1 := HC1.out
              have f2 := HC2.out
              refine Later.wp_region_later (wr.heap.size) (by kernel_rfl) (by kernel_rfl) ?_
              repeat (first | go_big_quiet_step ((first | (go_at_call 34; exact later_same (l6In_yes _ g1)) | (go_at_call 35; exact later_same (sSpin_yes _ g2)))) | quiet_step ((first | (go_at_call 34; exact later_same (l6In_yes _ g1)) | (go_at_call 35; exact later_same (sSpin_yes _ g2)))))
              refine wpQuiet_nil ?_
              rintro w1 ⟨q1, hq1⟩
              have b1 := q1.h
              rw [← hq1] at b1
              clear hq1 q1
              have B1 : Below w.heap.size w w1 := Below.trans hB (b1.mono (by omega))
              clear f0 f1 f2
              go_wp2_with fail
              refine Later.wp_region_later (wr.heap.size) (by kernel_rfl) (by kernel_rfl) ?_
              repeat (first | go_big_quiet_step ((fail)) | quiet_step ((fail)))
              refine wpQuiet_nil ?_
              rintro w2 ⟨q2, hq2⟩
              have b2 := q2.h
              rw [← hq2] at b2
              clear hq2 q2
              have B2 : Below w.heap.size w w2 := Below.trans B1 (b2.mono (by omega))
              skip
              go_wp2
              go_roundw
              case rel => exact ⟨1, by omega, by go_num, HF.out, B2⟩
              case measure => simp [intOf]; omega
            · have HF := Lib.hid (fit_no (ns := ns) (by have := HN.out; omega) hf)
              clear hf
              go_wp2_with fail
              have f0 := HC0.out
              have f1 := HC1.out
              have f2 := HC2.out
              refine Later.wp_region_later (wr.heap.size) (by kernel_rfl) (by kernel_rfl) ?_
              repeat (first | go_big_quiet_step ((first | (go_at_call 34; exact later_same (l6In_yes _ g1)) | (go_at_call 35; exact later_same (sSpin_yes _ g2)))) | quiet_step ((first | (go_at_call 34; exact later_same (l6In_yes _ g1)) | (go_at_call 35; exact later_same (sSpin_yes _ g2)))))
              refine wpQuiet_nil ?_
              rintro w1 ⟨q1, hq1⟩
              have b1 := q1.h
              rw [← hq1] at b1
              clear hq1 q1
              have B1 : Below w.heap.size w w1 := Below.trans hB (b1.mono (by omega))
              clear f0 f1 f2
              go_wp2_with fail
              have f0 : ∀ p : Later wr.heap.size w1, p.W.cell? ⟨b, o + (q + 1) * 3, none⟩ = some (.int .i64 (nth ns (q + 1)).e) := fun p => Later.cell ((b1.cell (p := ⟨b, o + (q + 1) * 3, none⟩) hbw).trans (HC0.out ⟨wr, Below.refl _ _⟩)) hbw p
              have f1 : ∀ p : Later wr.heap.size w1, p.W.cell? ⟨b, o + q * 3, none⟩ = some (.int .i64 (nth ns q).e) := fun p => Later.cell ((B1.cell (p := ⟨b, o + q * 3, none⟩) hb).trans (HC.out q (by omega)).1) hbw p
              have hq1 : (q : Int) < (n : Int) := by omega
              refine Later.wp_region_later (wr.heap.size) (by kernel_rfl) (by kernel_rfl) ?_
              repeat (first | go_big_quiet_step ((fail)) | quiet_step ((fail)))
              refine wpQuiet_nil ?_
              rintro w2 ⟨q2, hq2⟩
              have b2 := q2.h
              rw [← hq2] at b2
              clear hq2 q2
              have B2 : Below w.heap.size w w2 := Below.trans B1 (b2.mono (by omega))
              clear f0 f1
              go_wp2
              go_ret
              exact ⟨ret_bool HF.out.symm, B2⟩
            · have HF := Lib.hid (show fitTo ns (q + 1 + 1) = true by rw [fitTo_succ, hf, HFT.out]; rfl)
              clear hf
              go_wp2_with fail
              have f0 := HC0.out
              have f1 := HC1.out
              have f2 := HC2.out
              refine Later.wp_region_later (wr.heap.size) (by kernel_rfl) (by kernel_rfl) ?_
              repeat (first | go_big_quiet_step ((first | (go_at_call 34; exact later_same (l6In_yes _ g1)) | (go_at_call 35; exact later_same (sSpin_yes _ g2)))) | quiet_step ((first | (go_at_call 34; exact later_same (l6In_yes _ g1)) | (go_at_call 35; exact later_same (sSpin_yes _ g2)))))
              refine wpQuiet_nil ?_
              rintro w1 ⟨q1, hq1⟩
              have b1 := q1.h
              rw [← hq1] at b1
              clear hq1 q1
              have B1 : Below w.heap.size w w1 := Below.trans hB (b1.mono (by omega))
              clear f0 f1 f2
              go_wp2_with fail
              have f0 : ∀ p : Later wr.heap.size w1, p.W.cell? ⟨b, o + (q + 1) * 3, none⟩ = some (.int .i64 (nth ns (q + 1)).e) := fun p => Later.cell ((b1.cell (p := ⟨b, o + (q + 1) * 3, none⟩) hbw).trans (HC0.out ⟨wr, Below.refl _ _⟩)) hbw p
              have f1 : ∀ p : Later wr.heap.size w1, p.W.cell? ⟨b, o + q * 3, none⟩ = some (.int .i64 (nth ns q).e) := fun p => Later.cell ((B1.cell (p := ⟨b, o + q * 3, none⟩) hb).trans (HC.out q (by omega)).1) hbw p
              have hq1 : (q : Int) < (n : Int) := by omega
              refine Later.wp_region_later (wr.heap.size) (by kernel_rfl) (by kernel_rfl) ?_
              repeat (first | go_big_quiet_step ((fail)) | quiet_step ((fail)))
              refine wpQuiet_nil ?_
              rintro w2 ⟨q2, hq2⟩
              have b2 := q2.h
              rw [← hq2] at b2
              clear hq2 q2
              have B2 : Below w.heap.size w w2 := Below.trans B1 (b2.mono (by omega))
              clear f0 f1
              go_wp2
              go_roundw
              case rel => exact ⟨q + 1 + 1, by omega, by go_num, HF.out, B2⟩
              case measure => simp [intOf]; omega
          · obtain rfl : k = n := by omega
            have HA := Lib.hid (scheme_all (ns := ns) (by have := HN.out; omega) (by have := HN.out; omega) HE.out (by rw [← HN.out]; exact HFT.out))
            go_wp2
            go_ret
            exact ⟨ret_bool HA.out.symm, hB⟩
      · have he2 : ((nth ns 0).e == 0) = false := by simpa using he
        have he3 : ¬ (nth ns 0).e = 0 := he
        have HF := Lib.hid (scheme_first (ns := ns) (by simpa using he))
        clear he HC
        go_enter Try.func16, Try.ntmps16
        go_wp2_with (go_at_call 34; refine (l6In_yes _ ⟨h1, h12⟩).mono ?_; rintro e w' ⟨rfl, rfl⟩)
        all_goals go_ret
        all_goals exact ⟨ret_bool HF.out.symm, Below.refl _ _⟩

end Go.Proofs.Ytgkgdnocleajcaa.Node
