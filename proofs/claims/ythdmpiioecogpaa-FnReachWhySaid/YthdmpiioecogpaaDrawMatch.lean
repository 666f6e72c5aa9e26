/-
  The draws of schemes with an index, or with a wave number and a tolerance.
-/
import Derived.Test.YthdmpiioecogpaaDrawScheme
import Derived.Test.YthdmpiioecogpaaLinesS
import Derived.RegionTactic
namespace Go.Proofs.Ythdmpiioecogpaa.DrawMatch
open Go.RowKit Go.Proofs.Ythdmpiioecogpaa.Spin Go.Proofs.Ythdmpiioecogpaa.Row Go.Proofs.Ythdmpiioecogpaa.Plain Go.Proofs.Ythdmpiioecogpaa.Later Go.Proofs.Ythdmpiioecogpaa.Node Go.Proofs.Ythdmpiioecogpaa.Line Go.Proofs.Ythdmpiioecogpaa.LinesS Go.Proofs.Ythdmpiioecogpaa.Rd Go.Proofs.Ythdmpiioecogpaa.DrawScheme
set_option linter.unusedVariables false
set_option linter.unusedSimpArgs false

set_option maxRecDepth 100000 in
set_option maxHeartbeats 1000000 in
theorem drawSchemeReach (a : Option Addr) (n c : Nat) (zs : List Int) (w : World) (h : IsRow .u8 w a n c zs) :
    Calls Try.prog 13 #[.slice a n c] w (SomeScheme w) := by
  have HO := Lib.hid (open_any a n c zs _ h)
  clear h
  go_enter Try.func13, Try.ntmps13
  go_wp2_with fail
  refine HO.out.mono ?_
  rintro e w1 ⟨rfl, b1, s1, r1⟩
  have S1 := Nat.le_of_eq s1.symm
  clear HO s1
  go_wp2_with fail
  (with_reducible refine (l93Scheme w.heap.size 0 _ r1 (by omega)).mono ?_)
  rintro e w2 ⟨ns, v, hl, rfl, O2, g2, r2⟩
  have B2 := drawn_below b1 g2 (Nat.le_refl _)
  have O := own_base O2 (show w.heap.size ≤ w1.heap.size by omega)
  clear O2 g2 r2 b1
  go_wp2
  go_ret
  exact ⟨ns, v, hl, rfl, O, B2⟩
set_option maxRecDepth 100000 in
set_option maxHeartbeats 1000000 in
theorem drawSchemeResting (a : Option Addr) (n c : Nat) (zs : List Int) (w : World) (h : IsRow .u8 w a n c zs) :
    Calls Try.prog 22 #[.slice a n c] w (SomeScheme w) := by
  have HO := Lib.hid (open_any a n c zs _ h)
  clear h
  go_enter Try.func22, Try.ntmps22
  go_wp2_with fail
  refine HO.out.mono ?_
  rintro e w1 ⟨rfl, b1, s1, r1⟩
  have S1 := Nat.le_of_eq s1.symm
  clear HO s1
  go_wp2_with fail
  (with_reducible refine (l93Scheme w.heap.size 0 _ r1 (by omega)).mono ?_)
  rintro e w2 ⟨ns, v, hl, rfl, O2, g2, r2⟩
  have B2 := drawn_below b1 g2 (Nat.le_refl _)
  have O := own_base O2 (show w.heap.size ≤ w1.heap.size by omega)
  clear O2 g2 r2 b1
  go_wp2
  go_ret
  exact ⟨ns, v, hl, rfl, O, B2⟩

def DrawnInt (R : Nat) (K d : Int) (w : World) (e : Ending) (w' : World) : Prop := ∃ x : Int, e = .returned (.int .i64 x) ∧ w.grownBy w' (some R) ∧ Rd w' R (K + d)

set_option maxRecDepth 100000 in
set_option maxHeartbeats 1000000 in
theorem l93Tolerance (R : Nat) (K : Int) (w : World) (hr : Rd w R K) (hK : K ≤ 900000) :
    Calls Try.prog 64 #[.pointer (some ⟨R, 0, none⟩)] w (DrawnInt R K 3 w) := by
  have hR := hr.lt
  go_enter Try.func64, Try.ntmps64
  go_wp2_with fail
  (with_reducible refine (pick_any R K 20 _ hr (by omega) (by omega)).mono ?_)
  rintro e w1 ⟨v1, v1l, v1h, rfl, m1⟩
  have G1 := m1.1
  have r1 := m1.rd
  have s1 := Nat.le_of_eq m1.2.1
  have t1 := Nat.le_of_eq m1.2.1.symm
  clear m1
  go_wp2_with fail
  · have hne : w1.heap.size ≠ R := by omega
    (with_reducible refine (pick_any R (K + 1) 2 _ (Rd.alloc r1 _) (by omega) (by omega)).mono ?_)
    rintro e w2 ⟨v2, v2l, v2h, rfl, m2⟩
    have x0 : w2.cell? ⟨w1.heap.size, 0, none⟩ = some (.int .i64 (-1)) := (m2.cell hne 0).trans (by simp)
    have x1 : w2.cell? ⟨w1.heap.size, 1, none⟩ = some (.int .i64 1001) := (m2.cell hne 1).trans (by simp)
    have G2 : w.grownBy w2 (some R) := only_trans (only_alloc G1 _) m2.1 (fun g h => .inl h.symm)
    have r2 := m2.rd
    clear m2
    have h2 : v2 = 0 ∨ v2 = 1 := by omega
    rcases h2 with rfl | rfl
    all_goals
      go_wp2
      go_ret
      exact ⟨_, rfl, G2, Rd.mono r2 (by omega)⟩
  · go_ret
    exact ⟨_, rfl, G1, Rd.mono r1 (by omega)⟩
  · (with_reducible refine (pick_any R (K + 1) 30 _ r1 (by omega) (by omega)).mono ?_)
    rintro e w2 ⟨v2, v2l, v2h, rfl, m2⟩
    have G2 : w.grownBy w2 (some R) := only_trans G1 m2.1 (fun g h => .inl h.symm)
    have r2 := m2.rd
    clear m2
    go_wp2
    go_ret
    exact ⟨_, rfl, G2, Rd.mono r2 (by omega)⟩

set_option maxRecDepth 100000 in
set_option maxHeartbeats 2000000 in
theorem l93Seen (R : Nat) (K : Int) (ns : List Nd) (v : Value) (w : World) (hr : Rd w R K) (hK : K ≤ 900000) (hs : Sees w 3 v ns.length (ns.flatMap encN)) :
    Calls Try.prog 63 #[.pointer (some ⟨R, 0, none⟩), v] w (DrawnInt R K 4 w) := by
  have hR := hr.lt
  have HL := Lib.hid (sSchemeLines ns v w hs)
  have hbd : ∀ x ∈ linesOf ns, 0 ≤ x.n ∧ x.n ≤ 200000 := fun x hx => by have := line_parts hx; omega
  have hl144 := linesOf_len ns
  clear hs
  go_enter Try.func63, Try.ntmps63
  go_wp2_with fail
  refine HL.out.mono ?_
  rintro e w1 ⟨v1, rfl, O1, b1⟩
  have r1 := hr.below (b1.mono (by omega))
  have G1 : w.grownBy w1 (some R) := only_below (only_refl _ _) b1
  have s1 := b1.size
  clear HL b1
  generalize linesOf ns = l at *
  have HBD := Lib.hid hbd
  obtain ⟨n, hn⟩ : ∃ n, n = l.length := ⟨_, rfl⟩
  have HN := Lib.hid hn
  rw [← hn] at O1 hl144
  obtain ⟨a1, c1, e1⟩ := slice_form O1
  subst e1
  clear hbd hn
  by_cases hz : n = 0
  · have hz' : ((n : Int) == 0) = true := by rw [beq_iff_eq]; omega
    clear hz
    go_wp2_with fail
    (with_reducible refine (pick_any R K 200 _ r1 (by omega) (by omega)).mono ?_)
    rintro e w2 ⟨v2, v2l, v2h, rfl, m2⟩
    have G2 : w.grownBy w2 (some R) := only_trans G1 m2.1 (fun g h => .inl h.symm)
    have r2 := m2.rd
    clear m2
    go_wp2
    go_ret
    exact ⟨_, rfl, G2, Rd.mono r2 (by omega)⟩
  · have hz' : ((n : Int) == 0) = false := by rw [beq_eq_false_iff_ne]; omega
    have hz2 : (0 : Int) < (n : Int) := by omega
    obtain ⟨g, cc, e2, hg0, hg1, hgc, hgm, hcell⟩ := own_form O1 (by omega)
    cases e2
    have HC := Lib.hid (fun (W : World) (hW : ∀ j, W.cell? ⟨g, j, none⟩ = w1.cell? ⟨g, j, none⟩) (k : Nat) (hk : k < l.length) => (line_cells (w := W) (xs := l) (b := g) (o := 0) (fun j hj => (hW _).trans (hcell j (by have := HN.out; omega))) k hk).2.2)
    have hgR : g ≠ R := by omega
    unfold maxLen at hgm
    clear hz hcell O1
    go_wp2_with fail
    (with_reducible refine (pick_any R K 5 _ r1 (by omega) (by omega)).mono ?_)
    rintro e w2 ⟨v2, v2l, v2h, rfl, m2⟩
    have G2 : w.grownBy w2 (some R) := only_trans G1 m2.1 (fun g h => .inl h.symm)
    have r2 := m2.rd
    have K2 := Lib.hid (fun j => m2.cell hgR j)
    clear m2
    by_cases hv : v2 = 0
    · have hv' : (v2 == 0) = true := by simpa using hv
      clear hv
      go_wp2_with fail
      (with_reducible refine (pick_any R (K + 1) 200 _ r2 (by omega) (by omega)).mono ?_)
      rintro e w3 ⟨v3, v3l, v3h, rfl, m3⟩
      have G3 : w.grownBy w3 (some R) := only_trans G2 m3.1 (fun g h => .inl h.symm)
      have r3 := m3.rd
      clear m3
      go_wp2
      go_ret
      exact ⟨_, rfl, G3, Rd.mono r3 (by omega)⟩
    · have hv' : (v2 == 0) = false := by simpa using hv
      clear hv
      go_wp2_with fail
      have HCC := Lib.hid (fun (W : World) (hW : ∀ j, W.cell? ⟨g, j, none⟩ = w1.cell? ⟨g, j, none⟩) (u : Int) (h0 : 0 ≤ u) (h1 : u < (n : Int)) => show ∃ y : Int, 0 ≤ y ∧ y ≤ 200000 ∧ W.cell? ⟨g, u.toNat * 3 + 2, none⟩ = some (.int .i64 y) by
        have hu : u.toNat < l.length := by have := HN.out; omega
        have hb := HBD.out _ (List.getElem_mem hu)
        have h := HC.out W hW u.toNat hu
        rw [Nat.zero_add] at h
        exact ⟨_, hb.1, hb.2, h⟩)
      go_region_with (first
        | (go_at_call 56; (with_reducible refine (pick_any R (K + 1) _ _ (by repeat (first | (with_reducible assumption) | (with_reducible refine Rd.alloc ?_ _) | (with_reducible refine Rd.setCell ?_ ?_ _) | (with_reducible refine Rd.drew ?_) | omega | (simp <;> omega))) (by omega) (by omega)).mono ?_); rintro e w3 ⟨v3, v3l, v3h, rfl, m3⟩; have r3 := m3.rd; have K3 := Lib.hid (fun j => (m3.cell hgR j).trans (show (w2.drew).cell? ⟨g, j, none⟩ = w1.cell? ⟨g, j, none⟩ from K2.out j)); have G3 : w.grownBy w3 (some R) := only_trans (only_drew G2) m3.1 (fun g h => .inl h.symm); obtain ⟨y, y0, y1, x3⟩ := HCC.out w3 K3.out v3 v3l v3h; clear m3 r2)
        | (go_at_call 56; (with_reducible refine (pick_any R (K + 1 + 1) _ _ (by repeat (first | (with_reducible assumption) | (with_reducible refine Rd.alloc ?_ _) | (with_reducible refine Rd.setCell ?_ ?_ _) | (with_reducible refine Rd.drew ?_) | omega | (simp <;> omega))) (by omega) (by omega)).mono ?_); rintro e w4 ⟨v4, v4l, v4h, rfl, m4⟩; have r4 := m4.rd; have x4 := (m4.cell hgR (v3.toNat * 3 + 2)).trans x3; have G4 : w.grownBy w4 (some R) := only_trans G3 m4.1 (fun g h => .inl h.symm); clear m4))
      all_goals go_wp2
      all_goals go_ret
      all_goals exact ⟨_, rfl, G4, Rd.mono r4 (by omega)⟩

def SomeMatch (w : World) (e : Ending) (w' : World) : Prop :=
  ∃ (ns : List Nd) (v : Value) (x t : Int), ns.length ≤ 9 ∧ e = .returned (.tuple #[v, .int .i64 x, .int .i64 t]) ∧ w'.ownsRow w.heap.size 63 3 v ns.length (ns.flatMap encN) ∧ Below w.heap.size w w'

set_option maxRecDepth 100000 in
set_option maxHeartbeats 2000000 in
theorem drawMatchLines (a : Option Addr) (n c : Nat) (zs : List Int) (w : World) (h : IsRow .u8 w a n c zs) :
    Calls Try.prog 38 #[.slice a n c] w (SomeMatch w) := by
  have HO := Lib.hid (open_any a n c zs _ h)
  clear h
  go_enter Try.func38, Try.ntmps38
  go_wp2_with fail
  refine HO.out.mono ?_
  rintro e w1 ⟨rfl, b1, s1, r1⟩
  have S1 := Nat.le_of_eq s1.symm
  clear HO s1
  go_wp2_with fail
  (with_reducible refine (l93Scheme w.heap.size 0 _ r1 (by omega)).mono ?_)
  rintro e w2 ⟨ns, v, hl, rfl, O2, g2, r2⟩
  have B2 := drawn_below b1 g2 (Nat.le_refl _)
  have z2 := g2.size
  have hwl : w.heap.size < w1.heap.size := by omega
  clear g2 b1
  go_wp2_with fail
  (with_reducible refine (l93Seen w.heap.size (0 + 50) ns v _ r2 (by omega) (Sees.of_own O2)).mono ?_)
  rintro e w3 ⟨x, rfl, g3, r3⟩
  have B3 := drawn_below B2 g3 (Nat.le_refl _)
  have O3 := kept_row O2 g3 hwl
  have z3 := g3.size
  clear g3 r2 O2
  go_wp2_with fail
  (with_reducible refine (pick_any w.heap.size (0 + 50 + 4) 30 _ r3 (by omega) (by omega)).mono ?_)
  rintro e w4 ⟨v4, v4l, v4h, rfl, m4⟩
  have B4 := drawn_below B3 m4.1 (Nat.le_refl _)
  have O4 := kept_row O3 m4.1 hwl
  have r4 := m4.rd
  have z4 := Nat.le_of_eq m4.2.1.symm
  clear m4 r3 O3
  by_cases hv : v4 = 0
  · have hv' : (v4 == 0) = true := by simpa using hv
    have hne : w4.heap.size ≠ w.heap.size := by omega
    clear hv
    go_wp2_with fail
    (with_reducible refine (pick_any w.heap.size (0 + 50 + 4 + 1) 2 _ (Rd.alloc r4 _) (by omega) (by omega)).mono ?_)
    rintro e w5 ⟨v5, v5l, v5h, rfl, m5⟩
    have x0 : w5.cell? ⟨w4.heap.size, 0, none⟩ = some (.int .i64 (-1)) := (m5.cell hne 0).trans (by simp)
    have x1 : w5.cell? ⟨w4.heap.size, 1, none⟩ = some (.int .i64 200001) := (m5.cell hne 1).trans (by simp)
    have B5 := drawn_below (B4.alloc B4.size _) m5.1 (Nat.le_refl _)
    have O5 := kept_row (O4.alloc _) m5.1 hwl
    have r5 := m5.rd
    clear m5
    have h5 : v5 = 0 ∨ v5 = 1 := by omega
    rcases h5 with rfl | rfl
    all_goals
      go_wp2_with fail
      (with_reducible refine (l93Tolerance w.heap.size (0 + 50 + 4 + 1 + 1) _ r5 (by omega)).mono ?_)
      rintro e w6 ⟨t, rfl, g6, r6⟩
      have B6 := drawn_below B5 g6 (Nat.le_refl _)
      have O6 := own_base (kept_row O5 g6 hwl) (show w.heap.size ≤ w1.heap.size by omega)
      clear g6 r6 O5
      go_wp2
      go_ret3
      exact ⟨ns, v, _, t, hl, rfl, O6, B6⟩
  · have hv' : (v4 == 0) = false := by simpa using hv
    clear hv
    go_wp2_with fail
    (with_reducible refine (l93Tolerance w.heap.size (0 + 50 + 4 + 1) _ r4 (by omega)).mono ?_)
    rintro e w6 ⟨t, rfl, g6, r6⟩
    have B6 := drawn_below B4 g6 (Nat.le_refl _)
    have O6 := own_base (kept_row O4 g6 hwl) (show w.heap.size ≤ w1.heap.size by omega)
    clear g6 r6 O4
    go_wp2
    go_ret3
    exact ⟨ns, v, x, t, hl, rfl, O6, B6⟩
theorem drawMatchBest (a : Option Addr) (n c : Nat) (zs : List Int) (w : World) (h : IsRow .u8 w a n c zs) :
    Calls Try.prog 41 #[.slice a n c] w (SomeMatch w) := by
  have HO := Lib.hid (drawMatchLines a n c zs _ h)
  clear h
  go_enter Try.func41, Try.ntmps41
  go_wp2_with fail
  refine HO.out.mono ?_
  rintro e w1 ⟨ns, v, x, t, hl, rfl, O, B⟩
  clear HO
  go_wp2
  go_ret3
  exact ⟨ns, v, x, t, hl, rfl, O, B⟩
def SomeDecay (w : World) (e : Ending) (w' : World) : Prop :=
  ∃ (ns : List Nd) (v : Value) (x : Int), ns.length ≤ 9 ∧ e = .returned (.tuple #[v, .int .i64 x]) ∧ w'.ownsRow w.heap.size 63 3 v ns.length (ns.flatMap encN) ∧ Below w.heap.size w w'

set_option maxRecDepth 100000 in
set_option maxHeartbeats 2000000 in
theorem drawSchemeDecays (a : Option Addr) (n c : Nat) (zs : List Int) (w : World) (h : IsRow .u8 w a n c zs) :
    Calls Try.prog 18 #[.slice a n c] w (SomeDecay w) := by
  have HO := Lib.hid (open_any a n c zs _ h)
  clear h
  go_enter Try.func18, Try.ntmps18
  go_wp2_with fail
  refine HO.out.mono ?_
  rintro e w1 ⟨rfl, b1, s1, r1⟩
  have S1 := Nat.le_of_eq s1.symm
  clear HO s1
  go_wp2_with fail
  (with_reducible refine (l93Scheme w.heap.size 0 _ r1 (by omega)).mono ?_)
  rintro e w2 ⟨ns, v, hl, rfl, O2, g2, r2⟩
  have B2 := drawn_below b1 g2 (Nat.le_refl _)
  have z2 := g2.size
  have hwl : w.heap.size < w1.heap.size := by omega
  clear g2 b1
  go_wp2_with fail
  (with_reducible refine (sSchemeLines ns v _ (Sees.of_own O2)).mono ?_)
  rintro e w3 ⟨v3, rfl, Q3, b3⟩
  have B3 := B2.trans (b3.mono B2.size)
  have O3 := own_below O2 b3 (Nat.le_refl _)
  have r3 := r2.below (b3.mono (by omega))
  have z3 := b3.size
  have hl144 := linesOf_len ns
  obtain ⟨L, hL⟩ : ∃ L, L = linesOf ns := ⟨_, rfl⟩
  rw [← hL] at Q3 hl144
  obtain ⟨N, hN⟩ : ∃ N, N = L.length := ⟨_, rfl⟩
  have HN := Lib.hid hN
  rw [← hN] at Q3 hl144
  obtain ⟨a3, c3, e3⟩ := slice_form Q3
  subst e3
  clear b3 r2 O2 hL hN
  by_cases hz : 0 < N
  · have hz' : (0 : Int) < (N : Int) := by omega
    obtain ⟨g, cc, e2, hg0, hg1, hgc, hgm, hcell⟩ := own_form Q3 hz
    cases e2
    have hgR : g ≠ w.heap.size := by omega
    have HC := Lib.hid (fun (W : World) (hW : ∀ j, W.cell? ⟨g, j, none⟩ = w3.cell? ⟨g, j, none⟩) (u : Int) (h0 : 0 ≤ u) (h1 : u < (N : Int)) => show ∃ y : Int, W.cell? ⟨g, u.toNat * 3, none⟩ = some (.int .i64 y) by
      have hu : u.toNat < L.length := by have := HN.out; omega
      have h := (line_cells (w := W) (xs := L) (b := g) (o := 0) (fun j hj => (hW _).trans (hcell j (by have := HN.out; omega))) u.toNat hu).1
      rw [Nat.zero_add] at h
      exact ⟨_, h⟩)
    unfold maxLen at hgm
    clear Q3 hcell
    go_wp2_with fail
    (with_reducible refine (pick_any w.heap.size (0 + 50) 4 _ r3 (by omega) (by omega)).mono ?_)
    rintro e w4 ⟨v4, v4l, v4h, rfl, m4⟩
    have B4 := drawn_below B3 m4.1 (Nat.le_refl _)
    have O4 := kept_row O3 m4.1 hwl
    have r4 := m4.rd
    have K4 := Lib.hid (fun j => m4.cell hgR j)
    clear m4 r3 O3
    by_cases hv : 0 < v4
    · go_wp2_with fail
      go_region_with (first
        | (go_at_call 56; (with_reducible refine (pick_any w.heap.size (0 + 50 + 1) _ _ (by repeat (first | (with_reducible assumption) | (with_reducible refine Rd.alloc ?_ _) | (with_reducible refine Rd.setCell ?_ ?_ _) | (with_reducible refine Rd.drew ?_) | omega | (simp <;> omega))) (by omega) (by omega)).mono ?_); rintro e w5 ⟨v5, v5l, v5h, rfl, m5⟩; have K5 := Lib.hid (fun j => (m5.cell hgR j).trans (show (w4.drew).cell? ⟨g, j, none⟩ = w3.cell? ⟨g, j, none⟩ from K4.out j)); have B5 := drawn_below (B4.drew) m5.1 (Nat.le_refl _); have O5 := own_base (kept_row (O4.drew) m5.1 hwl) (show w.heap.size ≤ w1.heap.size by omega); obtain ⟨y, x5⟩ := HC.out w5 K5.out v5 v5l v5h; clear m5))
      all_goals go_wp2
      all_goals go_ret2
      all_goals exact ⟨ns, v, _, hl, rfl, O5, B5⟩
    · have hv' : ¬ 0 < v4 := hv
      go_wp2_with fail
      (with_reducible refine (pick_any w.heap.size (0 + 50 + 1) 10 _ r4 (by omega) (by omega)).mono ?_)
      rintro e w5 ⟨v5, v5l, v5h, rfl, m5⟩
      have B5 := drawn_below B4 m5.1 (Nat.le_refl _)
      have O5 := own_base (kept_row O4 m5.1 hwl) (show w.heap.size ≤ w1.heap.size by omega)
      clear m5
      go_wp2
      go_ret2
      exact ⟨ns, v, _, hl, rfl, O5, B5⟩
  · have hz' : ¬ (0 : Int) < (N : Int) := by omega
    go_wp2_with fail
    (with_reducible refine (pick_any w.heap.size (0 + 50) 10 _ r3 (by omega) (by omega)).mono ?_)
    rintro e w5 ⟨v5, v5l, v5h, rfl, m5⟩
    have B5 := drawn_below B3 m5.1 (Nat.le_refl _)
    have O5 := own_base (kept_row O3 m5.1 hwl) (show w.heap.size ≤ w1.heap.size by omega)
    clear m5
    go_wp2
    go_ret2
    exact ⟨ns, v, _, hl, rfl, O5, B5⟩

end Go.Proofs.Ythdmpiioecogpaa.DrawMatch
