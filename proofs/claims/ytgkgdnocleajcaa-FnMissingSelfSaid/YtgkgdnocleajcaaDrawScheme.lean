/-
  The draw of a scheme.
-/
import Derived.Test.YtgkgdnocleajcaaNode
import Derived.Test.YtgkgdnocleajcaaRd
namespace Go.Proofs.Ytgkgdnocleajcaa.DrawScheme
open Go.RowKit Go.Proofs.Ytgkgdnocleajcaa.Spin Go.Proofs.Ytgkgdnocleajcaa.Row Go.Proofs.Ytgkgdnocleajcaa.Plain Go.Proofs.Ytgkgdnocleajcaa.Later Go.Proofs.Ytgkgdnocleajcaa.Node Go.Proofs.Ytgkgdnocleajcaa.Rd
set_option linter.unusedVariables false
set_option linter.unusedSimpArgs false

theorem flat_set {α : Type} (enc : α → List Value) (k : Nat) (hk : ∀ x, (enc x).length = k) (xs : List α) (i j : Nat) (hi : i < xs.length) (hj : j < k) (v : Value) (x' : α) (hx : enc x' = (enc xs[i]).set j v) :
    (xs.flatMap enc).set (i * k + j) v = (xs.set i x').flatMap enc := by
  induction xs generalizing i with
  | nil => simp at hi
  | cons x xs ih =>
    cases i with
    | zero =>
      rw [List.set_cons_zero, List.flatMap_cons, List.flatMap_cons, Nat.zero_mul, Nat.zero_add, List.set_append_left _ _ (by rw [hk]; exact hj)]
      rw [hx]
      rfl
    | succ i =>
      rw [List.set_cons_succ, List.flatMap_cons, List.flatMap_cons, List.set_append_right _ _ (by rw [hk, Nat.succ_mul]; omega), hk]
      rw [show (i + 1) * k + j - k = i * k + j by rw [Nat.succ_mul]; omega]
      rw [ih i (by simpa using hi) hx]

/-- a drawn scheme of at most 9 nodes in a row of the call's own; only the reader has moved -/
def DrawnScheme (R : Nat) (K d : Int) (w : World) (e : Ending) (w' : World) : Prop :=
  ∃ (ns : List Nd) (v : Value), ns.length ≤ 9 ∧ e = .returned v ∧ w'.ownsRow w.heap.size 32 3 v ns.length (ns.flatMap encN) ∧ w.grownBy w' (some R) ∧ Rd w' R (K + d)

theorem kept_row {w0 w1 : World} {base : Nat} {e : TypeId} {k : Nat} {v : Value} {n : Nat} {cs : List Value} {R : Nat} (h : w0.ownsRow base e k v n cs) (hg : w0.grownBy w1 (some R)) (hR : R < base) : w1.ownsRow base e k v n cs :=
  h.kept hg (by
    cases h0 : v.ownBlock with
    | none => exact .inl rfl
    | some g =>
      refine .inr fun e => ?_
      have h1 := (h.lt g h0).1
      injection e with e
      omega)

def JB (ns : List Nd) : Prop := ∀ x ∈ ns, 0 ≤ x.j ∧ x.j ≤ 100
theorem JB.snoc {ns : List Nd} (h : JB ns) {x : Nd} (hx : 0 ≤ x.j ∧ x.j ≤ 100) : JB (ns ++ [x]) := by
  intro y hy
  rcases List.mem_append.1 hy with hy | hy
  · exact h y hy
  · obtain rfl : y = x := by simpa using hy
    exact hx

theorem infoNode : (Try.prog.info? 32).map (fun i => (i.zero, i.size, i.bytes)) = some (some (.agg #[.int .i64 0, .int .i64 0, .bool false]), 3, 24) := by kernel_rfl

theorem own_empty (w : World) (base : Nat) (hb : base ≤ w.heap.size) : (w.alloc (.cells #[] 32)).ownsRow base 32 3 (.slice (some ⟨w.heap.size, 0, none⟩) 0 0) 0 [] := by
  have h := World.ownsRow_lit (base := base) (e := 32) (size := 3) w #[] 0 (by simpa using hb) (by decide) rfl
  simpa using h

set_option maxHeartbeats 4000000 in
theorem l93Scheme (R : Nat) (K : Int) (w : World) (hr : Rd w R K) (hK : K ≤ 900000) :
    Calls Try.prog 40 #[.pointer (some ⟨R, 0, none⟩)] w (DrawnScheme R K 50 w) := by
  obtain ⟨i0, hi, hz0, hz1, hz2⟩ := info_parts infoNode
  have HI := Lib.hid hi
  have HZ0 := Lib.hid hz0
  have HZ1 := Lib.hid hz1
  have HZ2 := Lib.hid hz2
  clear hi hz0 hz1 hz2
  have hR := hr.lt
  have own0 : (w.alloc (.cells #[] 32)).ownsRow w.heap.size 32 3 (.slice (some ⟨w.heap.size, 0, none⟩) 0 0) 0 [] := by
    have h := World.ownsRow_lit (base := w.heap.size) (e := 32) (size := 3) w #[] 0 (by simp) (by decide) rfl
    simpa using h
  have HO := Lib.hid own0
  clear own0
  go_enter Try.func40, Try.ntmps40
  go_wp2_with fail
  (with_reducible refine (pick_any R (K) 8 _ (by repeat (first | (with_reducible assumption) | (with_reducible refine Rd.alloc ?_ _) | (with_reducible refine Rd.setCell ?_ ?_ _) | (with_reducible refine Rd.drew ?_) | omega | (simp <;> omega))) (by omega) (by omega)).mono ?_)
  rintro e w1 ⟨v1, v1l, v1h, rfl, m1⟩
  have O1 := kept_row (HO.out) m1.1 hR
  have G1 : w.grownBy w1 (some R) := only_trans (only_alloc (only_refl _ _) _) m1.1 (fun g h => .inl h.symm)
  have r1 := m1.rd
  have s1 := Nat.le_of_eq m1.2.1
  have t1 := Nat.le_of_eq m1.2.1.symm
  (try simp at s1 t1)
  clear m1
  obtain ⟨N, rfl⟩ := Int.eq_ofNat_of_zero_le v1l
  go_wp2_with fail
  (with_reducible refine (pick_any R (K + 1) 2 _ (by repeat (first | (with_reducible assumption) | (with_reducible refine Rd.alloc ?_ _) | (with_reducible refine Rd.setCell ?_ ?_ _) | (with_reducible refine Rd.drew ?_) | omega | (simp <;> omega))) (by omega) (by omega)).mono ?_)
  rintro e w2 ⟨v2, v2l, v2h, rfl, m2⟩
  have O2 := kept_row (O1) m2.1 hR
  have G2 : w.grownBy w2 (some R) := only_trans (G1) m2.1 (fun g h => .inl h.symm)
  have r2 := m2.rd
  have s2 := Nat.le_of_eq m2.2.1
  have t2 := Nat.le_of_eq m2.2.1.symm
  (try simp at s2 t2)
  clear m2
  clear O1 G1 r1 HO
  go_wp2
  go_loopw [3, 6, 7] (fun out en i wr => ∃ (k : Nat) (ns : List Nd) (ee : Int), k ≤ N + 1 ∧ ns.length = k ∧ i = .int .i64 k ∧ en = .int .i64 ee ∧ 0 ≤ ee ∧ ee ≤ 4000 * (k : Int) ∧ JB ns ∧ wr.ownsRow w.heap.size 32 3 out k (ns.flatMap encN) ∧ w.grownBy wr (some R) ∧ Rd wr R (K + 1 + 1 + 4 * (k : Int))) (fun _ _ i _ => N + 1 - (intOf i).toNat)
  case atStart => exact ⟨0, [], 0, by omega, rfl, rfl, rfl, by omega, by omega, by simp [JB], O2, G2, Rd.mono r2 (by omega)⟩
  case round =>
    obtain ⟨k, ns, ee, hk, hl, rfl, rfl, e0, e1, hJ, hown, hG, hrr⟩ := hrel
    have HLN := Lib.hid hl
    clear hl
    have hRw := hG.size
    by_cases hlt : k < N + 1
    · have hlt' : (k : Int) < 1 + (N : Int) := by omega
      go_wp2_with fail
      (with_reducible refine (pick_any R (K + 1 + 1 + 4 * (k : Int)) 4 _ (by repeat (first | (with_reducible assumption) | (with_reducible refine Rd.alloc ?_ _) | (with_reducible refine Rd.setCell ?_ ?_ _) | (with_reducible refine Rd.drew ?_) | omega | (simp <;> omega))) (by omega) (by omega)).mono ?_)
      rintro e w3 ⟨v3, v3l, v3h, rfl, m3⟩
      have O3 := kept_row (hown) m3.1 hR
      have G3 : w.grownBy w3 (some R) := only_trans (hG) m3.1 (fun g h => .inl h.symm)
      have r3 := m3.rd
      have s3 := Nat.le_of_eq m3.2.1
      have t3 := Nat.le_of_eq m3.2.1.symm
      (try simp at s3 t3)
      clear m3
      go_wp2_with fail
      (with_reducible refine (pick_any R (K + 1 + 1 + 4 * (k : Int) + 1) 2 _ (by repeat (first | (with_reducible assumption) | (with_reducible refine Rd.alloc ?_ _) | (with_reducible refine Rd.setCell ?_ ?_ _) | (with_reducible refine Rd.drew ?_) | omega | (simp <;> omega))) (by omega) (by omega)).mono ?_)
      rintro e w4 ⟨v4, v4l, v4h, rfl, m4⟩
      have O4 := kept_row (O3) m4.1 hR
      have G4 : w.grownBy w4 (some R) := only_trans (G3) m4.1 (fun g h => .inl h.symm)
      have r4 := m4.rd
      have s4 := Nat.le_of_eq m4.2.1
      have t4 := Nat.le_of_eq m4.2.1.symm
      (try simp at s4 t4)
      clear m4
      clear O3 G3 r3 hown hG hrr
      go_wp2_with (at_builtin; refine wpList_append_own _ rfl _ _ 25 rfl w.heap.size 32 i0 (.agg #[.int .i64 0, .int .i64 0, .bool false]) 3 24 Try.underlying25 HI.out HZ0.out HZ1.out HZ2.out rfl (by decide) _ _ _ rfl (O4.alloc _) ⟨w4.heap.size, 0, none⟩ 1 1 [.int .i64 ee, .int .i64 (v2 + 2 * v3), .bool (v4 == 0)] rfl rfl (cells_new _ _ _) (by simp [Value.oneCell']) (by unfold maxLen; omega) (by omega) (by simp; omega) ?_)
      intro v' w5 hown5 hgrow _
      have r5 := r4.below (own_step (Below.refl (R + 1) w4) (by have := r4.lt; omega) hgrow (fun g h => by have := (O4.lt g h).1; omega))
      have G5 := only_step G4 (fun g h => .inr (O4.lt g h).1) hgrow
      have O5 : w5.ownsRow w.heap.size 32 3 v' (k + 1) ((ns ++ [(⟨ee, v2 + 2 * v3, v4 == 0⟩ : Nd)]).flatMap encN) := by rw [List.flatMap_append]; exact hown5
      clear hown5 hgrow O4 G4 r4
      go_wp2_with fail
      (with_reducible refine (pick_any R (K + 1 + 1 + 4 * (k : Int) + 1 + 1) 40 _ (by repeat (first | (with_reducible assumption) | (with_reducible refine Rd.alloc ?_ _) | (with_reducible refine Rd.setCell ?_ ?_ _) | (with_reducible refine Rd.drew ?_) | omega | (simp <;> omega))) (by omega) (by omega)).mono ?_)
      rintro e w6 ⟨v6, v6l, v6h, rfl, m6⟩
      have O6 := kept_row (O5) m6.1 hR
      have G6 : w.grownBy w6 (some R) := only_trans (G5) m6.1 (fun g h => .inl h.symm)
      have r6 := m6.rd
      have s6 := Nat.le_of_eq m6.2.1
      have t6 := Nat.le_of_eq m6.2.1.symm
      (try simp at s6 t6)
      clear m6
      clear O5 G5 r5
      go_wp2_with fail
      have hn6 : w6.heap.size ≠ R := by have := r6.lt; omega
      (with_reducible refine (pick_any R (K + 1 + 1 + 4 * (k : Int) + 1 + 1 + 1) 3 _ (by repeat (first | (with_reducible assumption) | (with_reducible refine Rd.alloc ?_ _) | (with_reducible refine Rd.setCell ?_ ?_ _) | (with_reducible refine Rd.drew ?_) | omega | (simp <;> omega))) (by omega) (by omega)).mono ?_)
      rintro e w7 ⟨v7, v7l, v7h, rfl, m7⟩
      have O7 := kept_row (O6.alloc _) m7.1 hR
      have G7 : w.grownBy w7 (some R) := only_trans (only_alloc G6 _) m7.1 (fun g h => .inl h.symm)
      have r7 := m7.rd
      have s7 := Nat.le_of_eq m7.2.1
      have t7 := Nat.le_of_eq m7.2.1.symm
      (try simp at s7 t7)
      have x0 : w7.cell? ⟨w6.heap.size, 0, none⟩ = some (.int .i64 1) := (m7.cell hn6 0).trans (by simp)
      have x1 : w7.cell? ⟨w6.heap.size, 1, none⟩ = some (.int .i64 10) := (m7.cell hn6 1).trans (by simp)
      have x2 : w7.cell? ⟨w6.heap.size, 2, none⟩ = some (.int .i64 100) := (m7.cell hn6 2).trans (by simp)
      clear m7
      clear O6 G6 r6 hn6
      have h7 : v7 = 0 ∨ v7 = 1 ∨ v7 = 2 := by omega
      rcases h7 with rfl | rfl | rfl
      all_goals
        go_wp2
        go_roundw
        case rel => exact ⟨k + 1, _, _, by omega, by rw [List.length_append, HLN.out]; rfl, by go_num, rfl, by omega, by omega, JB.snoc hJ ⟨by show 0 ≤ v2 + 2 * v3; omega, by show v2 + 2 * v3 ≤ 100; omega⟩, O7, G7, Rd.mono r7 (by omega)⟩
        case measure => simp [intOf]; omega
    · obtain rfl : k = N + 1 := by omega
      rcases hown.2 with ⟨_, h0⟩ | ⟨g, c, cur, rfl, hbg, hg, hnc, hcm, _, _⟩
      · omega
      · clear hg
        unfold maxLen at hcm
        have hN : (N : Int) < 8 := by omega
        go_wp2_with fail
        (with_reducible refine (pick_any R (K + 1 + 1 + 4 * ((N + 1 : Nat) : Int)) 36 _ (by repeat (first | (with_reducible assumption) | (with_reducible refine Rd.alloc ?_ _) | (with_reducible refine Rd.setCell ?_ ?_ _) | (with_reducible refine Rd.drew ?_) | omega | (simp <;> omega))) (by omega) (by omega)).mono ?_)
        rintro e w8 ⟨v8, v8l, v8h, rfl, m8⟩
        have O8 := kept_row (hown) m8.1 hR
        have G8 : w.grownBy w8 (some R) := only_trans (hG) m8.1 (fun g h => .inl h.symm)
        have r8 := m8.rd
        have s8 := Nat.le_of_eq m8.2.1
        have t8 := Nat.le_of_eq m8.2.1.symm
        (try simp at s8 t8)
        clear m8
        clear hown hG hrr
        have hF := fun j => O8.frozenAt j
        have cel := fun (i j : Nat) (hi : i < ns.length) (hj : j < 3) => (O8.cellAt (i * 3 + j) (by have := HLN.out; omega)).trans (flat_get encN 3 encN_len ns i j hi hj)
        have hl0 : 0 < ns.length := by have := HLN.out; omega
        have hlN : N < ns.length := by have := HLN.out; omega
        have y0 : w8.cell? ⟨g, 0, none⟩ = some (.int .i64 ns[0].e) := cel 0 0 hl0 (by omega)
        have z0 : w8.cell? ⟨g, N * 3, none⟩ = some (.int .i64 ns[N].e) := cel N 0 hlN (by omega)
        have z1 : w8.cell? ⟨g, N * 3 + 1, none⟩ = some (.int .i64 ns[N].j) := cel N 1 hlN (by omega)
        have hj := hJ _ (List.getElem_mem hlN)
        clear cel
        have HJ := Lib.hid hJ
        obtain ⟨p1, q1⟩ := O8.stored 0 (.int .i64 1)
        obtain ⟨p2, q2⟩ := O8.stored (N * 3 + 1) (.int .i64 (ns[N].j + 1))
        obtain ⟨p3, q3⟩ := O8.stored (N * 3) (.int .i64 200001)
        have P1 := Lib.hid p1
        have P2 := Lib.hid p2
        have P3 := Lib.hid p3
        clear p1 q1 p2 q2 p3 q3 hJ
        have hgR : R < g := by omega
        go_wp2_with fail
        · go_ret
          exact ⟨ns.set 0 ⟨1, ns[0].j, ns[0].o⟩, _, by rw [List.length_set, HLN.out]; omega, rfl, by rw [List.length_set, HLN.out, ← flat_set encN 3 encN_len ns 0 0 hl0 (by omega) (.int .i64 1) ⟨1, ns[0].j, ns[0].o⟩ rfl]; exact P1.out, only_setCell G8 (.inr hbg) _, Rd.mono (Rd.setCell r8 hgR _) (by omega)⟩
        · go_ret
          exact ⟨ns.set N ⟨ns[N].e, ns[N].j + 1, ns[N].o⟩, _, by rw [List.length_set, HLN.out]; omega, rfl, by rw [List.length_set, HLN.out, ← flat_set encN 3 encN_len ns N 1 hlN (by omega) (.int .i64 (ns[N].j + 1)) ⟨ns[N].e, ns[N].j + 1, ns[N].o⟩ rfl]; exact P2.out, only_setCell G8 (.inr hbg) _, Rd.mono (Rd.setCell r8 hgR _) (by omega)⟩
        · go_ret
          exact ⟨ns.set N ⟨200001, ns[N].j, ns[N].o⟩, _, by rw [List.length_set, HLN.out]; omega, rfl, by rw [List.length_set, HLN.out, ← flat_set encN 3 encN_len ns N 0 hlN (by omega) (.int .i64 200001) ⟨200001, ns[N].j, ns[N].o⟩ rfl]; exact P3.out, only_setCell G8 (.inr hbg) _, Rd.mono (Rd.setCell r8 hgR _) (by omega)⟩
        · go_ret
          exact ⟨[], _, by simp, rfl, own_empty w8 _ (by omega), only_alloc G8 _, Rd.mono (Rd.alloc r8 _) (by omega)⟩
        · go_ret
          exact ⟨ns, _, by have := HLN.out; omega, rfl, by rw [HLN.out]; exact O8, G8, Rd.mono r8 (by omega)⟩

def SomeScheme (w : World) (e : Ending) (w' : World) : Prop :=
  ∃ (ns : List Nd) (v : Value), ns.length ≤ 9 ∧ e = .returned v ∧ w'.ownsRow w.heap.size 32 3 v ns.length (ns.flatMap encN) ∧ Below w.heap.size w w'

theorem drawn_below {w W w' : World} {R : Nat} (hB : Below w.heap.size w W) (hg : W.grownBy w' (some R)) (hR : w.heap.size ≤ R) : Below w.heap.size w w' :=
  below_only hB hg hB.size (fun g h => by cases h; exact hR)

set_option maxHeartbeats 1000000 in
theorem drawSchemeLines (a : Option Addr) (n c : Nat) (zs : List Int) (w : World) (h : IsRow .u8 w a n c zs) :
    Calls Try.prog 22 #[.slice a n c] w (SomeScheme w) := by
  have HO := Lib.hid (open_any a n c zs _ h)
  clear h
  go_enter Try.func22, Try.ntmps22
  go_wp2_with fail
  refine HO.out.mono ?_
  rintro e w1 ⟨rfl, b1, s1, r1⟩
  have S1 := Nat.le_of_eq s1.symm
  clear HO s1
  go_wp2_with fail
  (with_reducible refine (l93Scheme w.heap.size 0 _ r1 (by omega)).mono ?_)
  rintro e w2 ⟨ns, v, hl, rfl, O2, g2, r2⟩
  have B2 := drawn_below b1 g2 (Nat.le_refl _)
  have O := own_base O2 (show w.heap.size ≤ w1.heap.size by omega)
  clear O2 g2 r2 b1
  go_wp2
  go_ret
  exact ⟨ns, v, hl, rfl, O, B2⟩
set_option maxHeartbeats 1000000 in
theorem drawSchemeValid (a : Option Addr) (n c : Nat) (zs : List Int) (w : World) (h : IsRow .u8 w a n c zs) :
    Calls Try.prog 20 #[.slice a n c] w (SomeScheme w) := by
  have HO := Lib.hid (open_any a n c zs _ h)
  clear h
  go_enter Try.func20, Try.ntmps20
  go_wp2_with fail
  refine HO.out.mono ?_
  rintro e w1 ⟨rfl, b1, s1, r1⟩
  have S1 := Nat.le_of_eq s1.symm
  clear HO s1
  go_wp2_with fail
  (with_reducible refine (l93Scheme w.heap.size 0 _ r1 (by omega)).mono ?_)
  rintro e w2 ⟨ns, v, hl, rfl, O2, g2, r2⟩
  have B2 := drawn_below b1 g2 (Nat.le_refl _)
  have s2 := g2.size
  clear g2 b1
  obtain ⟨N, hN⟩ : ∃ N, N = ns.length := ⟨_, rfl⟩
  have HN := Lib.hid hN
  rw [← hN] at O2 hl
  clear hN
  rcases O2.2 with ⟨rfl, rfl⟩ | ⟨g, cp, cur, rfl, hbg, hg, hnc, hcm, _, _⟩
  · go_wp2
    go_ret
    exact ⟨ns, _, by have := HN.out; omega, rfl, by rw [← HN.out]; exact own_base O2 (by omega), B2⟩
  · clear hg
    unfold maxLen at hcm
    by_cases h1 : 1 < N
    · have h1' : (1 : Int) < (N : Int) := by omega
      go_wp2_with fail
      (with_reducible refine (pick_any w.heap.size (0 + 50) 8 _ r2 (by omega) (by omega)).mono ?_)
      rintro e w3 ⟨v3, v3l, v3h, rfl, m3⟩
      have O3 := kept_row O2 m3.1 (by omega)
      have B3 := drawn_below B2 m3.1 (Nat.le_refl _)
      have hF := fun j => O3.frozenAt j
      have hl1 : 1 < ns.length := by have := HN.out; omega
      have y0 : w3.cell? ⟨g, 3, none⟩ = some (.int .i64 ns[1].e) := (O3.cellAt (1 * 3 + 0) (by omega)).trans (flat_get encN 3 encN_len ns 1 0 hl1 (by omega))
      obtain ⟨p1, q1⟩ := O3.stored 3 (.int .i64 0)
      have P1 := Lib.hid p1
      clear p1 q1 m3
      go_wp2_with fail
      · go_ret
        exact ⟨ns.set 1 ⟨0, ns[1].j, ns[1].o⟩, _, by rw [List.length_set, ← HN.out]; omega, rfl, by rw [List.length_set, ← HN.out, ← flat_set encN 3 encN_len ns 1 0 hl1 (by omega) (.int .i64 0) ⟨0, ns[1].j, ns[1].o⟩ rfl]; exact own_base P1.out (by omega), B3.setCell (by show w.heap.size ≤ g; omega) _⟩
      · go_ret
        exact ⟨ns, _, by have := HN.out; omega, rfl, by rw [← HN.out]; exact own_base O3 (by omega), B3⟩
    · have h1' : ¬ (1 : Int) < (N : Int) := by omega
      have h1'' : (N : Int) ≤ 1 := by omega
      go_wp2_with fail
      go_ret
      exact ⟨ns, _, by have := HN.out; omega, rfl, by rw [← HN.out]; exact own_base O2 (by omega), B2⟩

end Go.Proofs.Ytgkgdnocleajcaa.DrawScheme
