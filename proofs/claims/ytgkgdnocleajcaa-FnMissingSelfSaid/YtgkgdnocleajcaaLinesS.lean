/-
  Contract of the reference's SchemeLines.
-/
import Derived.Test.YtgkgdnocleajcaaLinesFn
import Derived.Maps.AppendAt
namespace Go.Proofs.Ytgkgdnocleajcaa.LinesS
open Go.RowKit Go.Proofs.Ytgkgdnocleajcaa.Spin Go.Proofs.Ytgkgdnocleajcaa.Row Go.Proofs.Ytgkgdnocleajcaa.Plain Go.Proofs.Ytgkgdnocleajcaa.Later Go.Proofs.Ytgkgdnocleajcaa.Node Go.Proofs.Ytgkgdnocleajcaa.Line Go.Proofs.Ytgkgdnocleajcaa.LinesFn
set_option linter.unusedVariables false
set_option linter.unusedSimpArgs false

/-- the cells of the k-th line in its row -/
theorem line_cells {w : World} {xs : List Ln} {b o : Nat} (hcell : ∀ j, j < xs.length * 3 → w.cell? ⟨b, o + j, none⟩ = (xs.flatMap encLn)[j]?) (i : Nat) (hi : i < xs.length) : w.cell? ⟨b, o + i * 3, none⟩ = some (.int .i64 (xs[i].u : Int)) ∧ w.cell? ⟨b, o + i * 3 + 1, none⟩ = some (.int .i64 (xs[i].l : Int)) ∧ w.cell? ⟨b, o + i * 3 + 2, none⟩ = some (.int .i64 xs[i].n) := by
  have g := fun j (hj : j < 3) => (hcell (i * 3 + j) (by omega)).trans (flat_get encLn 3 encLn_len xs i j hi hj)
  exact ⟨g 0 (by omega), g 1 (by omega), g 2 (by omega)⟩
theorem flat_drop {α : Type} (enc : α → List Value) (k : Nat) (hk : ∀ x, (enc x).length = k) (xs : List α) (a : Nat) (ha : a ≤ xs.length) : (xs.drop a).flatMap enc = (xs.flatMap enc).drop (a * k) := by
  have e : xs.flatMap enc = (xs.take a).flatMap enc ++ (xs.drop a).flatMap enc := by rw [← List.flatMap_append, List.take_append_drop]
  have hl : ((xs.take a).flatMap enc).length = a * k := by rw [flat_length enc k hk, List.length_take, Nat.min_eq_left ha]
  rw [e, ← hl, List.drop_left]
theorem flat_take' {α : Type} (enc : α → List Value) (k : Nat) (hk : ∀ x, (enc x).length = k) (xs : List α) (a : Nat) (ha : a ≤ xs.length) : (xs.take a).flatMap enc = (xs.flatMap enc).take (a * k) := by
  have e : xs.flatMap enc = (xs.take a).flatMap enc ++ (xs.drop a).flatMap enc := by rw [← List.flatMap_append, List.take_append_drop]
  have hl : ((xs.take a).flatMap enc).length = a * k := by rw [flat_length enc k hk, List.length_take, Nat.min_eq_left ha]
  rw [e, ← hl, List.take_left]
theorem place_step {l : List Ln} {x : Ln} {q : Nat} (h : lt x (l.getD q ⟨0, 0, 0⟩) = true) : place l x (q + 1) = place l x q := by rw [place, if_pos h]
theorem place_stop {l : List Ln} {x : Ln} {q : Nat} (h : lt x (l.getD q ⟨0, 0, 0⟩) = false) : place l x (q + 1) = q + 1 := by rw [place, if_neg (by rw [h]; exact Bool.false_ne_true)]

theorem one_encLn (l : List Ln) : ∀ u ∈ l.flatMap encLn, u.oneCell' = true := by
  intro u hu
  obtain ⟨x, _, hx⟩ := List.mem_flatMap.1 hu
  simp [encLn] at hx
  rcases hx with rfl | rfl | rfl <;> rfl

theorem own_emptyL (w : World) (base : Nat) (hb : base ≤ w.heap.size) : (w.alloc (.cells #[] 39)).ownsRow base 39 3 (.slice (some ⟨w.heap.size, 0, none⟩) 0 0) 0 [] := by
  have h := World.ownsRow_lit (base := base) (e := 39) (size := 3) w #[] 0 (by simpa using hb) (by decide) rfl
  simpa using h

/-- the cells of a part of a slice, as append reads them -/
theorem part_cells {w W : World} {b o n a : Nat} {cs : List Value} (hcell : ∀ j, j < n → w.cell? ⟨b, o + j, none⟩ = cs[j]?) (hl : cs.length = n) (hW : ∀ j, W.cell? ⟨b, j, none⟩ = w.cell? ⟨b, j, none⟩) : ∀ j u, (cs.drop a)[j]? = some u → W.cell? ((⟨b, o + a, none⟩ : Addr).add j) = some u := by
  intro j u hu
  have e : (⟨b, o + a, none⟩ : Addr).add j = ⟨b, o + (a + j), none⟩ := by rw [Go.WideShapes.add_plain, Nat.add_assoc]
  have hlt : a + j < n := by
    have := (List.getElem?_eq_some_iff.1 hu).1
    simp at this
    omega
  rw [e, hW, hcell _ hlt, ← hu, List.getElem?_drop]

theorem part_take {w W : World} {b o n a : Nat} {cs : List Value} (hcell : ∀ j, j < n → w.cell? ⟨b, o + j, none⟩ = cs[j]?) (hl : cs.length = n) (hW : ∀ j, W.cell? ⟨b, j, none⟩ = w.cell? ⟨b, j, none⟩) : ∀ j u, (cs.take a)[j]? = some u → W.cell? ((⟨b, o, none⟩ : Addr).add j) = some u := by
  intro j u hu
  have e : (⟨b, o, none⟩ : Addr).add j = ⟨b, o + j, none⟩ := Go.WideShapes.add_plain _ _ _
  have hlt := (List.getElem?_eq_some_iff.1 hu).1
  rw [List.length_take] at hlt
  rw [List.getElem?_take_of_lt (by omega)] at hu
  rw [e, hW, hcell _ (by omega), hu]

/-- the slice expression v[a:] on lines -/
theorem run_from (b o n c a : Nat) (h : a ≤ n) (W : World) : (Instr.slice 35 (.slice (some ⟨b, o, none⟩) n c) (some (.int .i64 (a : Int))) none none).run Try.prog W = .ok (.slice (some (if c = a then ⟨b, o, none⟩ else ⟨b, o + a * 3, none⟩)) (n - a) (c - a)) W := by
  have hs : (Go.sizeOf (Try.prog.elem 35)).run Try.prog W = .ok 3 W := Try.sizeOf39 W
  rw [run_slice_l (P := Try.prog) W 35 (some ⟨b, o, none⟩) n c Try.underlying35 .i64 (a : Int) (by omega) (by omega), hs]
  simp only [Result.andThen, sliced, Int.toNat_natCast]
  by_cases e : c = a <;> simp [e, Go.WideShapes.add_plain, Addr.add]

set_option maxHeartbeats 4000000 in
theorem l31Put (l : List Ln) (x : Ln) (b o n c : Nat) (w : World) (hn : n = l.length) (hnc : n ≤ c) (hcm : c ≤ maxLen) (hb : b < w.heap.size) (hn2 : n ≤ 300) (hcell : ∀ j, j < n * 3 → w.cell? ⟨b, o + j, none⟩ = (l.flatMap encLn)[j]?) :
    Calls Try.prog 48 #[.slice (some ⟨b, o, none⟩) n c, .agg #[.int .i64 (x.u : Int), .int .i64 (x.l : Int), .int .i64 x.n]] w (GivesRow 39 3 (put l x).length ((put l x).flatMap encLn) w) := by
  obtain ⟨i0, hi, hz0, hz1, hz2⟩ := info_parts infoLine
  have HI := Lib.hid hi
  have HZ0 := Lib.hid hz0
  have HZ1 := Lib.hid hz1
  have HZ2 := Lib.hid hz2
  clear hi hz0 hz1 hz2
  have HN := Lib.hid hn
  have HC := Lib.hid hcell
  unfold maxLen at hcm
  clear hn hcell
  go_enter Try.func48, Try.ntmps48
  go_wp2
  have hX := (Below.refl (w.heap.size + 1) (w.alloc (.cells #[.int .i64 (x.u : Int), .int .i64 (x.l : Int), .int .i64 x.n] 39)))
  go_loopw [5] (fun i wr => ∃ a : Nat, a ≤ n ∧ i = .int .i64 a ∧ place l x n = place l x a ∧ Below (w.heap.size + 1) (w.alloc (.cells #[.int .i64 (x.u : Int), .int .i64 (x.l : Int), .int .i64 x.n] 39)) wr) (fun i _ => (intOf i).toNat)
  case atStart => exact ⟨n, by omega, rfl, rfl, hX⟩
  case round =>
    obtain ⟨a, han, rfl, hpl, hB⟩ := hrel
    have HPL := Lib.hid hpl
    have hsz := hB.size
    simp at hsz
    clear hpl hX
    have x0 := (hB.cell (p := ⟨w.heap.size, 0, none⟩) (by simp)).trans (show _ = some (.int .i64 (x.u : Int)) by simp)
    have x1 := (hB.cell (p := ⟨w.heap.size, 1, none⟩) (by simp)).trans (show _ = some (.int .i64 (x.l : Int)) by simp)
    have x2 := (hB.cell (p := ⟨w.heap.size, 2, none⟩) (by simp)).trans (show _ = some (.int .i64 x.n) by simp)
    have HK := Lib.hid (fun j => (hB.cell (p := ⟨b, j, none⟩) (show b < w.heap.size + 1 by omega)).trans (World.cell?_alloc_lt _ _ _ hb))
    have Bw : Below w.heap.size w wr := Below.trans (by repeat (first | (with_reducible refine Below.drew ?_) | (with_reducible refine below_drewN ?_ _) | (with_reducible refine Below.alloc ?_ ?_ _) | (with_reducible refine Below.setCell ?_ ?_ _) | (with_reducible assumption) | (with_reducible exact Below.refl _ _) | omega | (simp <;> omega))) (hB.mono (by omega))
    have hbw : b < wr.heap.size := by omega
    have hxw : w.heap.size < wr.heap.size := by omega
    have fin : place l x n = a → ((a = 0 ∧ 0 = 0) ∨ a = a) → True := fun _ _ => trivial
    clear fin
    by_cases ha : a = 0
    · have HP := Lib.hid (show place l x n = a by rw [HPL.out, ha]; rfl)
      have hd : decide ((0 : Int) < (a : Int)) = false := by simp; omega
      have hd2 : decide (0 < a) = false := by simp; omega
      clear ha HPL
      go_wp2_with fail
      have f0 : ∀ p : Later wr.heap.size wr, p.W.cell? ⟨w.heap.size, 0, none⟩ = some (.int .i64 (x.u : Int)) := Later.cell x0 hxw
      have f1 : ∀ p : Later wr.heap.size wr, p.W.cell? ⟨w.heap.size, 1, none⟩ = some (.int .i64 (x.l : Int)) := Later.cell x1 hxw
      have f2 : ∀ p : Later wr.heap.size wr, p.W.cell? ⟨w.heap.size, 2, none⟩ = some (.int .i64 x.n) := Later.cell x2 hxw
      refine Later.wp_region_later (wr.heap.size) (by kernel_rfl) (by kernel_rfl) ?_
      repeat (first | go_big_quiet_step ((fail)) | quiet_step ((fail)))
      refine wpQuiet_nil ?_
      rintro w1 ⟨q1, hq1⟩
      have b1 := q1.h
      rw [← hq1] at b1
      clear hq1 q1
      clear f0 f1 f2 hd hd2 x0 x1 x2
      have B1 := hB.trans (b1.mono (by omega))
      have hz1 := B1.size
      (try simp at hz1)
      have HK1 := Lib.hid (fun j => (B1.cell (p := ⟨b, j, none⟩) (show b < w.heap.size + 1 by omega)).trans (World.cell?_alloc_lt _ _ _ hb))
      have HO1 := Lib.hid (own_emptyL w1 w.heap.size (by omega))
      have HT1 := Lib.hid (part_take (a := a * 3) (W := w1.alloc (.cells #[] 39)) HC.out (by rw [flat_length encLn 3 encLn_len, HN.out]) (fun j => (World.cell?_alloc_lt _ _ _ (show b < w1.heap.size by omega)).trans (HK1.out j)))
      have HTL := Lib.hid (show ((l.flatMap encLn).take (a * 3)).length = a * 3 by rw [List.length_take, flat_length encLn 3 encLn_len, ← HN.out]; omega)
      have HT2 := Lib.hid (fun u (hu : u ∈ (l.flatMap encLn).take (a * 3)) => one_encLn l u (List.mem_of_mem_take hu))
      clear b1 HK hB Bw hsz hbw hxw
      go_wp2_with (at_builtin; refine wpList_append_own _ rfl _ _ 35 rfl w.heap.size 39 i0 (.agg #[.int .i64 0, .int .i64 0, .int .i64 0]) 3 24 Try.underlying35 HI.out HZ0.out HZ1.out HZ2.out rfl (by decide) _ _ _ rfl HO1.out ⟨b, o, none⟩ a c ((l.flatMap encLn).take (a * 3)) rfl HTL.out HT1.out HT2.out (by unfold maxLen; omega) (by omega) (by simp; omega) ?_)
      intro v2 w2 O2 g2 _
      (try simp only [Nat.zero_add, List.nil_append] at O2)
      have B2 := own_step B1 (by simp) g2 (fun k hk => by simp [Value.ownBlock] at hk; omega)
      have hz2 := B2.size
      (try simp at hz2)
      have x0 := (B2.cell (p := ⟨w.heap.size, 0, none⟩) (by simp)).trans (show _ = some (.int .i64 (x.u : Int)) by simp)
      have x1 := (B2.cell (p := ⟨w.heap.size, 1, none⟩) (by simp)).trans (show _ = some (.int .i64 (x.l : Int)) by simp)
      have x2 := (B2.cell (p := ⟨w.heap.size, 2, none⟩) (by simp)).trans (show _ = some (.int .i64 x.n) by simp)
      have Bw2 : Below w.heap.size w w2 := Below.trans (by repeat (first | (with_reducible refine Below.drew ?_) | (with_reducible refine below_drewN ?_ _) | (with_reducible refine Below.alloc ?_ ?_ _) | (with_reducible refine Below.setCell ?_ ?_ _) | (with_reducible assumption) | (with_reducible exact Below.refl _ _) | omega | (simp <;> omega))) (B2.mono (by omega))
      clear g2 HO1 HT1 HT2 HTL HK1 B1 hz1 B2
      go_wp2_with (at_builtin; refine wpList_append_own _ rfl _ _ 35 rfl w.heap.size 39 i0 (.agg #[.int .i64 0, .int .i64 0, .int .i64 0]) 3 24 Try.underlying35 HI.out HZ0.out HZ1.out HZ2.out rfl (by decide) _ _ _ rfl (O2.alloc _) ⟨w2.heap.size, 0, none⟩ 1 1 [.int .i64 (x.u : Int), .int .i64 (x.l : Int), .int .i64 x.n] rfl rfl (cells_new _ _ _) (by simp [Value.oneCell']) (by unfold maxLen; omega) (by omega) (by simp; omega) ?_)
      intro v3 w3 O3 g3 _
      have Bw3 := own_step Bw2 (Nat.le_refl _) g3 (fun k hk => (O2.lt k hk).1)
      have hz3 := Bw3.size
      clear x0 x1 x2 g3 O2 Bw2
      have HT3 := Lib.hid (part_cells (a := a * 3) (W := w3) HC.out (by rw [flat_length encLn 3 encLn_len, HN.out]) (fun j => Bw3.cell (p := ⟨b, j, none⟩) hb))
      have HTL := Lib.hid (show ((l.flatMap encLn).drop (a * 3)).length = (n - a) * 3 by rw [List.length_drop, flat_length encLn 3 encLn_len, ← HN.out]; omega)
      have HT2 := Lib.hid (fun u (hu : u ∈ (l.flatMap encLn).drop (a * 3)) => one_encLn l u (List.mem_of_mem_drop hu))
      have HE := Lib.hid (show ((l.flatMap encLn).take (a * 3) ++ [.int .i64 (x.u : Int), .int .i64 (x.l : Int), .int .i64 x.n]) ++ (l.flatMap encLn).drop (a * 3) = (put l x).flatMap encLn by
        unfold put
        rw [← HN.out, HP.out, List.flatMap_append, List.flatMap_cons, flat_take' encLn 3 encLn_len l a (by have := HN.out; omega), flat_drop encLn 3 encLn_len l a (by have := HN.out; omega)]
        simp [encLn])
      have HLEN := Lib.hid (show (put l x).length = a + 1 + (n - a) by rw [put_len, ← HN.out]; omega)
      obtain ⟨ad, had⟩ : ∃ ad : Addr, ad = (if c = a then ⟨b, o, none⟩ else ⟨b, o + a * 3, none⟩) := ⟨_, rfl⟩
      have hsl := run_from b o n c a (by omega)
      rw [← had] at hsl
      have HT4 := Lib.hid (show ∀ j u, ((l.flatMap encLn).drop (a * 3))[j]? = some u → w3.cell? (ad.add j) = some u by
        intro j u hu
        by_cases e : c = a
        · have := (List.getElem?_eq_some_iff.1 hu).1
          have h2 := HTL.out
          omega
        · rw [had, if_neg e]
          exact HT3.out j u hu)
      clear had HT3
      go_wp2_with (at_builtin; refine wpList_append_own _ rfl _ _ 35 rfl w.heap.size 39 i0 (.agg #[.int .i64 0, .int .i64 0, .int .i64 0]) 3 24 Try.underlying35 HI.out HZ0.out HZ1.out HZ2.out rfl (by decide) _ _ _ rfl O3 ad (n - a) (c - a) ((l.flatMap encLn).drop (a * 3)) rfl HTL.out HT4.out HT2.out (by unfold maxLen; omega) (by omega) (by omega) ?_)
      intro v4 w4 O4 g4 _
      have Bw4 : Below w.heap.size w w4 := Bw3.grown g4 (by omega) (fun k hk => (O3.lt k hk).1)
      have O5 : w4.ownsRow w.heap.size 39 3 v4 (put l x).length ((put l x).flatMap encLn) := by
        rw [HLEN.out, ← HE.out, List.append_assoc]
        exact O4
      clear g4 O3 O4 Bw3 hsl
      go_wp2
      go_ret
      exact ⟨v4, rfl, O5, Bw4⟩
    · have hql : a - 1 < l.length := by have := HN.out; omega
      obtain ⟨y0', y1', y2'⟩ := line_cells (w := w) (xs := l) (b := b) (o := o) (fun j hj => HC.out j (by have := HN.out; omega)) (a - 1) hql
      have y0 := (HK.out _).trans y0'
      have y1 := (HK.out _).trans y1'
      have y2 := (HK.out _).trans y2'
      have HG := Lib.hid (show l.getD (a - 1) ⟨0, 0, 0⟩ = l[a - 1] by simp [List.getD_eq_getElem?_getD, List.getElem?_eq_getElem hql])
      have HPS := Lib.hid (fun (h : lt x l[a - 1] = true) => place_step (l := l) (x := x) (q := a - 1) (by rw [HG.out]; exact h))
      have HPT := Lib.hid (fun (h : lt x l[a - 1] = false) => place_stop (l := l) (x := x) (q := a - 1) (by rw [HG.out]; exact h))
      generalize l[a - 1] = y at *
      clear y0' y1' y2' HG
      have ha1 : 1 ≤ a := by omega
      have hq0 : (1 : Int) ≤ (a : Int) := by omega
      have hq1 : (a : Int) - 1 < (n : Int) := by omega
      have hq2 : (0 : Int) ≤ (a : Int) - 1 := by omega
      have hd : decide ((0 : Int) < (a : Int)) = true := by simp; omega
      have hd2 : decide (0 < a) = true := by simp; omega
      have HA1 := Lib.hid (show a - 1 + 1 = a by omega)
      clear ha
      cases hlt : lt x y
      · have HP := Lib.hid (show place l x n = a by rw [HPL.out]; have h := HPT.out hlt; rw [HA1.out] at h; exact h)
        go_wp2_with fail
        have f0 : ∀ p : Later wr.heap.size wr, p.W.cell? ⟨w.heap.size, 0, none⟩ = some (.int .i64 (x.u : Int)) := Later.cell x0 hxw
        have f1 : ∀ p : Later wr.heap.size wr, p.W.cell? ⟨w.heap.size, 1, none⟩ = some (.int .i64 (x.l : Int)) := Later.cell x1 hxw
        have f2 : ∀ p : Later wr.heap.size wr, p.W.cell? ⟨w.heap.size, 2, none⟩ = some (.int .i64 x.n) := Later.cell x2 hxw
        have f3 : ∀ p : Later wr.heap.size wr, p.W.cell? ⟨b, o + (a - 1) * 3, none⟩ = some (.int .i64 (y.u : Int)) := Later.cell y0 hbw
        have f4 : ∀ p : Later wr.heap.size wr, p.W.cell? ⟨b, o + (a - 1) * 3 + 1, none⟩ = some (.int .i64 (y.l : Int)) := Later.cell y1 hbw
        have f5 : ∀ p : Later wr.heap.size wr, p.W.cell? ⟨b, o + (a - 1) * 3 + 2, none⟩ = some (.int .i64 y.n) := Later.cell y2 hbw
        refine Later.wp_region_later (wr.heap.size) (by kernel_rfl) (by kernel_rfl) ?_
        repeat (first | go_big_quiet_step ((go_at_call 57; exact later_gives (by omega) (ahead_no _ hlt))) | quiet_step ((go_at_call 57; exact later_gives (by omega) (ahead_no _ hlt))))
        refine wpQuiet_nil ?_
        rintro w1 ⟨q1, hq1⟩
        have b1 := q1.h
        rw [← hq1] at b1
        clear hq1 q1
        clear f0 f1 f2 f3 f4 f5 x0 x1 x2 y0 y1 y2 hd hd2 hq0 hq1 hq2 hlt HPS HPT HPL
        have B1 := hB.trans (b1.mono (by omega))
        have hz1 := B1.size
        (try simp at hz1)
        have HK1 := Lib.hid (fun j => (B1.cell (p := ⟨b, j, none⟩) (show b < w.heap.size + 1 by omega)).trans (World.cell?_alloc_lt _ _ _ hb))
        have HO1 := Lib.hid (own_emptyL w1 w.heap.size (by omega))
        have HT1 := Lib.hid (part_take (a := a * 3) (W := w1.alloc (.cells #[] 39)) HC.out (by rw [flat_length encLn 3 encLn_len, HN.out]) (fun j => (World.cell?_alloc_lt _ _ _ (show b < w1.heap.size by omega)).trans (HK1.out j)))
        have HTL := Lib.hid (show ((l.flatMap encLn).take (a * 3)).length = a * 3 by rw [List.length_take, flat_length encLn 3 encLn_len, ← HN.out]; omega)
        have HT2 := Lib.hid (fun u (hu : u ∈ (l.flatMap encLn).take (a * 3)) => one_encLn l u (List.mem_of_mem_take hu))
        clear b1 HK hB Bw hsz hbw hxw
        go_wp2_with (at_builtin; refine wpList_append_own _ rfl _ _ 35 rfl w.heap.size 39 i0 (.agg #[.int .i64 0, .int .i64 0, .int .i64 0]) 3 24 Try.underlying35 HI.out HZ0.out HZ1.out HZ2.out rfl (by decide) _ _ _ rfl HO1.out ⟨b, o, none⟩ a c ((l.flatMap encLn).take (a * 3)) rfl HTL.out HT1.out HT2.out (by unfold maxLen; omega) (by omega) (by simp; omega) ?_)
        intro v2 w2 O2 g2 _
        (try simp only [Nat.zero_add, List.nil_append] at O2)
        have B2 := own_step B1 (by simp) g2 (fun k hk => by simp [Value.ownBlock] at hk; omega)
        have hz2 := B2.size
        (try simp at hz2)
        have x0 := (B2.cell (p := ⟨w.heap.size, 0, none⟩) (by simp)).trans (show _ = some (.int .i64 (x.u : Int)) by simp)
        have x1 := (B2.cell (p := ⟨w.heap.size, 1, none⟩) (by simp)).trans (show _ = some (.int .i64 (x.l : Int)) by simp)
        have x2 := (B2.cell (p := ⟨w.heap.size, 2, none⟩) (by simp)).trans (show _ = some (.int .i64 x.n) by simp)
        have Bw2 : Below w.heap.size w w2 := Below.trans (by repeat (first | (with_reducible refine Below.drew ?_) | (with_reducible refine below_drewN ?_ _) | (with_reducible refine Below.alloc ?_ ?_ _) | (with_reducible refine Below.setCell ?_ ?_ _) | (with_reducible assumption) | (with_reducible exact Below.refl _ _) | omega | (simp <;> omega))) (B2.mono (by omega))
        clear g2 HO1 HT1 HT2 HTL HK1 B1 hz1 B2
        go_wp2_with (at_builtin; refine wpList_append_own _ rfl _ _ 35 rfl w.heap.size 39 i0 (.agg #[.int .i64 0, .int .i64 0, .int .i64 0]) 3 24 Try.underlying35 HI.out HZ0.out HZ1.out HZ2.out rfl (by decide) _ _ _ rfl (O2.alloc _) ⟨w2.heap.size, 0, none⟩ 1 1 [.int .i64 (x.u : Int), .int .i64 (x.l : Int), .int .i64 x.n] rfl rfl (cells_new _ _ _) (by simp [Value.oneCell']) (by unfold maxLen; omega) (by omega) (by simp; omega) ?_)
        intro v3 w3 O3 g3 _
        have Bw3 := own_step Bw2 (Nat.le_refl _) g3 (fun k hk => (O2.lt k hk).1)
        have hz3 := Bw3.size
        clear x0 x1 x2 g3 O2 Bw2
        have HT3 := Lib.hid (part_cells (a := a * 3) (W := w3) HC.out (by rw [flat_length encLn 3 encLn_len, HN.out]) (fun j => Bw3.cell (p := ⟨b, j, none⟩) hb))
        have HTL := Lib.hid (show ((l.flatMap encLn).drop (a * 3)).length = (n - a) * 3 by rw [List.length_drop, flat_length encLn 3 encLn_len, ← HN.out]; omega)
        have HT2 := Lib.hid (fun u (hu : u ∈ (l.flatMap encLn).drop (a * 3)) => one_encLn l u (List.mem_of_mem_drop hu))
        have HE := Lib.hid (show ((l.flatMap encLn).take (a * 3) ++ [.int .i64 (x.u : Int), .int .i64 (x.l : Int), .int .i64 x.n]) ++ (l.flatMap encLn).drop (a * 3) = (put l x).flatMap encLn by
          unfold put
          rw [← HN.out, HP.out, List.flatMap_append, List.flatMap_cons, flat_take' encLn 3 encLn_len l a (by have := HN.out; omega), flat_drop encLn 3 encLn_len l a (by have := HN.out; omega)]
          simp [encLn])
        have HLEN := Lib.hid (show (put l x).length = a + 1 + (n - a) by rw [put_len, ← HN.out]; omega)
        obtain ⟨ad, had⟩ : ∃ ad : Addr, ad = (if c = a then ⟨b, o, none⟩ else ⟨b, o + a * 3, none⟩) := ⟨_, rfl⟩
        have hsl := run_from b o n c a (by omega)
        rw [← had] at hsl
        have HT4 := Lib.hid (show ∀ j u, ((l.flatMap encLn).drop (a * 3))[j]? = some u → w3.cell? (ad.add j) = some u by
          intro j u hu
          by_cases e : c = a
          · have := (List.getElem?_eq_some_iff.1 hu).1
            have h2 := HTL.out
            omega
          · rw [had, if_neg e]
            exact HT3.out j u hu)
        clear had HT3
        go_wp2_with (at_builtin; refine wpList_append_own _ rfl _ _ 35 rfl w.heap.size 39 i0 (.agg #[.int .i64 0, .int .i64 0, .int .i64 0]) 3 24 Try.underlying35 HI.out HZ0.out HZ1.out HZ2.out rfl (by decide) _ _ _ rfl O3 ad (n - a) (c - a) ((l.flatMap encLn).drop (a * 3)) rfl HTL.out HT4.out HT2.out (by unfold maxLen; omega) (by omega) (by omega) ?_)
        intro v4 w4 O4 g4 _
        have Bw4 : Below w.heap.size w w4 := Bw3.grown g4 (by omega) (fun k hk => (O3.lt k hk).1)
        have O5 : w4.ownsRow w.heap.size 39 3 v4 (put l x).length ((put l x).flatMap encLn) := by
          rw [HLEN.out, ← HE.out, List.append_assoc]
          exact O4
        clear g4 O3 O4 Bw3 hsl
        go_wp2
        go_ret
        exact ⟨v4, rfl, O5, Bw4⟩
      · have HP := Lib.hid (show place l x n = place l x (a - 1) by rw [HPL.out]; have h := HPS.out hlt; rw [HA1.out] at h; exact h)
        go_wp2_with fail
        have f0 : ∀ p : Later wr.heap.size wr, p.W.cell? ⟨w.heap.size, 0, none⟩ = some (.int .i64 (x.u : Int)) := Later.cell x0 hxw
        have f1 : ∀ p : Later wr.heap.size wr, p.W.cell? ⟨w.heap.size, 1, none⟩ = some (.int .i64 (x.l : Int)) := Later.cell x1 hxw
        have f2 : ∀ p : Later wr.heap.size wr, p.W.cell? ⟨w.heap.size, 2, none⟩ = some (.int .i64 x.n) := Later.cell x2 hxw
        have f3 : ∀ p : Later wr.heap.size wr, p.W.cell? ⟨b, o + (a - 1) * 3, none⟩ = some (.int .i64 (y.u : Int)) := Later.cell y0 hbw
        have f4 : ∀ p : Later wr.heap.size wr, p.W.cell? ⟨b, o + (a - 1) * 3 + 1, none⟩ = some (.int .i64 (y.l : Int)) := Later.cell y1 hbw
        have f5 : ∀ p : Later wr.heap.size wr, p.W.cell? ⟨b, o + (a - 1) * 3 + 2, none⟩ = some (.int .i64 y.n) := Later.cell y2 hbw
        refine Later.wp_region_later (wr.heap.size) (by kernel_rfl) (by kernel_rfl) ?_
        repeat (first | go_big_quiet_step ((go_at_call 57; exact later_gives (by omega) (ahead_yes _ hlt))) | quiet_step ((go_at_call 57; exact later_gives (by omega) (ahead_yes _ hlt))))
        refine wpQuiet_nil ?_
        rintro w1 ⟨q1, hq1⟩
        have b1 := q1.h
        rw [← hq1] at b1
        clear hq1 q1
        clear f0 f1 f2 f3 f4 f5 x0 x1 x2 y0 y1 y2
        have B1 := hB.trans (b1.mono (by omega))
        clear b1
        go_wp2
        go_roundw
        case rel => exact ⟨a - 1, by omega, by go_num, HP.out, B1⟩
        case measure => simp [intOf]; omega

theorem own_form {w : World} {base : Nat} {e : TypeId} {k : Nat} {v : Value} {n : Nat} {cs : List Value} (h : w.ownsRow base e k v n cs) (hn : 0 < n) : ∃ g c, v = .slice (some ⟨g, 0, none⟩) n c ∧ base ≤ g ∧ g < w.heap.size ∧ n ≤ c ∧ c ≤ maxLen ∧ ∀ j, j < n * k → w.cell? ⟨g, 0 + j, none⟩ = cs[j]? := by
  rcases h.2 with ⟨rfl, h0⟩ | ⟨g, c, cur, rfl, hb, hg, hn, hm, _, _⟩
  · omega
  · exact ⟨g, c, rfl, hb, lt_of_block hg, hn, hm, fun j hj => by rw [Nat.zero_add]; exact h.cellAt j hj⟩

/-- a row of lines that is not nil -/
def LRow (w : World) (base : Nat) (v : Value) (l : List Ln) : Prop := ∃ g c, v = .slice (some ⟨g, 0, none⟩) l.length c ∧ l.length ≤ c ∧ w.ownsRow base 39 3 v l.length (l.flatMap encLn)
theorem LRow.of {w : World} {base : Nat} {v : Value} {l : List Ln} (h : w.ownsRow base 39 3 v l.length (l.flatMap encLn)) (hn : 0 < l.length) : LRow w base v l := by
  obtain ⟨g, c, rfl, _, _, hc, _, _⟩ := own_form h hn
  exact ⟨g, c, rfl, hc, h⟩

set_option maxRecDepth 100000 in
set_option maxHeartbeats 4000000 in
theorem sSchemeLines (ns : List Nd) (v : Value) (w : World) (hs : Sees w 3 v ns.length (ns.flatMap encN)) :
    Calls Try.prog 24 #[v] w (GivesRow 39 3 (linesOf ns).length ((linesOf ns).flatMap encLn) w) := by
  have hs' := hs.below ((by repeat (first | (with_reducible refine Below.drew ?_) | (with_reducible refine below_drewN ?_ _) | (with_reducible refine Below.alloc ?_ ?_ _) | (with_reducible refine Below.setCell ?_ ?_ _) | (with_reducible assumption) | (with_reducible exact Below.refl _ _) | omega | (simp <;> omega))) : Below w.heap.size w (w.alloc (.cells #[] 39))) (Nat.le_refl _)
  have HV := Lib.hid (sSchemeValid ns v _ hs')
  have HE0 := Lib.hid (own_emptyL w w.heap.size (Nat.le_refl _))
  cases hok : schemeOk ns
  · have HL := Lib.hid (linesOf_no hok)
    rw [hok] at HV
    clear hs hs' hok
    go_enter Try.func24, Try.ntmps24
    go_wp2_with fail
    refine HV.out.mono ?_
    rintro e w1 ⟨rfl, b1⟩
    have O1 := own_below HE0.out b1 (Nat.le_refl _)
    have B1 : Below w.heap.size w w1 := Below.trans (by repeat (first | (with_reducible refine Below.drew ?_) | (with_reducible refine below_drewN ?_ _) | (with_reducible refine Below.alloc ?_ ?_ _) | (with_reducible refine Below.setCell ?_ ?_ _) | (with_reducible assumption) | (with_reducible exact Below.refl _ _) | omega | (simp <;> omega))) (b1.mono (by simp))
    clear b1 HV HE0
    go_wp2
    go_ret
    exact ⟨_, rfl, by rw [HL.out]; exact O1, B1⟩
  · have HL := Lib.hid (linesOf_yes hok)
    have p1 := (scheme_parts hok).1
    have p2 := (scheme_parts hok).2.1
    have HND := Lib.hid (fun i (hi : i < ns.length) => nd_bounds hok hi)
    rw [hok] at HV
    obtain ⟨n, hn⟩ : ∃ n, n = ns.length := ⟨_, rfl⟩
    have HN := Lib.hid hn
    rw [← hn] at hs p1 p2
    rcases hs.2 with ⟨h0, _⟩ | ⟨b, o, c, rfl, hnc, hcm, hb, hcell⟩
    · omega
    · unfold maxLen at hcm
      have HC := Lib.hid (fun (k : Nat) (hk : k < n) => node_cells (w := w) (ns := ns) (b := b) (o := o) (fun j hj => hcell j (by omega)) k (by omega))
      clear hs hs' hcell hok hn
      go_enter Try.func24, Try.ntmps24
      go_wp2_with fail
      refine HV.out.mono ?_
      rintro e w1 ⟨rfl, b1⟩
      have O1 := Lib.hid (own_below HE0.out b1 (Nat.le_refl _))
      have B1 : Below w.heap.size w w1 := Below.trans (by repeat (first | (with_reducible refine Below.drew ?_) | (with_reducible refine below_drewN ?_ _) | (with_reducible refine Below.alloc ?_ ?_ _) | (with_reducible refine Below.setCell ?_ ?_ _) | (with_reducible assumption) | (with_reducible exact Below.refl _ _) | omega | (simp <;> omega))) (b1.mono (by simp))
      clear b1 HV HE0
      go_wp2
      go_loopw [3, 4] (fun u i wr => ∃ (k : Nat) (v0 : Value), v0 = u ∧ k ≤ n ∧ i = .int .i64 k ∧ LRow wr w.heap.size v0 (sorted (rawTo ns k)) ∧ Below w.heap.size w wr) (fun _ i _ => n - (intOf i).toNat)
      case atStart => exact ⟨0, _, rfl, by omega, rfl, ⟨w.heap.size, 0, by simp [rawTo, sorted], by simp [rawTo, sorted], by simpa [rawTo, sorted] using O1.out⟩, B1⟩
      case round =>
        obtain ⟨k, v0, rfl, hk, rfl, hown, hB⟩ := hrel
        have HOW := Lib.hid hown
        have hsz := hB.size
        obtain ⟨wo, rfl⟩ : ∃ wo : World, wo = wr := ⟨_, rfl⟩
        clear hown
        by_cases hlt : k < n
        · go_wp2
          go_loopw [3, 5] (fun u i wr => ∃ (m : Nat) (v1 : Value), v1 = u ∧ m ≤ k ∧ i = .int .i64 m ∧ LRow wr w.heap.size v1 (sorted (rawTo ns k ++ rowTo ns k m)) ∧ Below w.heap.size w wr) (fun _ i _ => k - (intOf i).toNat)
          case atStart => exact ⟨0, v0, rfl, by omega, rfl, by rw [rowTo_zero, List.append_nil]; exact HOW.out, hB⟩
          case round =>
            obtain ⟨m, v1, rfl, hm, rfl, hown, hB⟩ := hrel
            have HOW := Lib.hid hown
            have hsz := hB.size
            clear hown
            by_cases hmk : m < k
            · obtain ⟨c0', c1', c2'⟩ := HC.out k hlt
              obtain ⟨d0', d1', d2'⟩ := HC.out m (by omega)
              have hkl : k < ns.length := by have := HN.out; omega
              have hml : m < ns.length := by have := HN.out; omega
              have hbx := HND.out k hkl
              have hby := HND.out m hml
              have hbw : b < wr.heap.size := by omega
              have c0 := (hB.cell (p := ⟨b, o + k * 3, none⟩) hb).trans c0'
              have c1 := (hB.cell (p := ⟨b, o + k * 3 + 1, none⟩) hb).trans c1'
              have c2 := (hB.cell (p := ⟨b, o + k * 3 + 2, none⟩) hb).trans c2'
              have d0 := (hB.cell (p := ⟨b, o + m * 3, none⟩) hb).trans d0'
              have d1 := (hB.cell (p := ⟨b, o + m * 3 + 1, none⟩) hb).trans d1'
              have d2 := (hB.cell (p := ⟨b, o + m * 3 + 2, none⟩) hb).trans d2'
              have hyes := fun (h : allow (nth ns k) (nth ns m) = true) => rowTo_yes (ns := ns) h
              have hno := fun (h : allow (nth ns k) (nth ns m) = false) => rowTo_no (ns := ns) h
              have hat : lineAt ns k m = ⟨k, m, (nth ns k).e - (nth ns m).e⟩ := rfl
              rw [hat] at hyes
              have hrl : (sorted (rawTo ns k ++ rowTo ns k m)).length ≤ 300 := by
                have h1 := rawTo_len ns k 12 (by omega)
                have h2 := rowTo_len ns k m
                rw [sorted_len, List.length_append]
                omega
              have HYES := Lib.hid hyes
              have HNO := Lib.hid hno
              have HRL := Lib.hid hrl
              have hk0 : (0 : Int) ≤ (k : Int) := by omega
              have hk1 : (k : Int) < (n : Int) := by omega
              have hm0 : (0 : Int) ≤ (m : Int) := by omega
              have hm1 : (m : Int) < (n : Int) := by omega
              clear c0' c1' c2' d0' d1' d2' hat hyes hno hrl
              generalize nth ns k = X at *
              generalize nth ns m = Y at *
              have ha := fun W => l31Allowed X Y W hbx.2 hby.2
              cases hal : allow X Y
              · rw [hal] at ha
                have HA := Lib.hid ha
                have HR := Lib.hid (HNO.out hal)
                clear ha hal
                go_wp2_with fail
                have f0 : ∀ p : Later wr.heap.size wr, p.W.cell? ⟨b, o + k * 3, none⟩ = some (.int .i64 X.e) := Later.cell c0 hbw
                have f1 : ∀ p : Later wr.heap.size wr, p.W.cell? ⟨b, o + k * 3 + 1, none⟩ = some (.int .i64 X.j) := Later.cell c1 hbw
                have f2 : ∀ p : Later wr.heap.size wr, p.W.cell? ⟨b, o + k * 3 + 2, none⟩ = some (.bool X.o) := Later.cell c2 hbw
                have f3 : ∀ p : Later wr.heap.size wr, p.W.cell? ⟨b, o + m * 3, none⟩ = some (.int .i64 Y.e) := Later.cell d0 hbw
                have f4 : ∀ p : Later wr.heap.size wr, p.W.cell? ⟨b, o + m * 3 + 1, none⟩ = some (.int .i64 Y.j) := Later.cell d1 hbw
                have f5 : ∀ p : Later wr.heap.size wr, p.W.cell? ⟨b, o + m * 3 + 2, none⟩ = some (.bool Y.o) := Later.cell d2 hbw
                refine Later.wp_region_later (wr.heap.size) (by kernel_rfl) (by kernel_rfl) ?_
                repeat (first | go_big_quiet_step ((go_at_call 47; exact later_gives (by omega) (HA.out _))) | quiet_step ((go_at_call 47; exact later_gives (by omega) (HA.out _))))
                refine wpQuiet_nil ?_
                rintro w2 ⟨q2, hq2⟩
                have b2 := q2.h
                rw [← hq2] at b2
                clear hq2 q2
                have B2 := hB.trans (b2.mono hsz)
                obtain ⟨g, cc, rfl, hgc, hO⟩ := HOW.out
                have O2 := own_below hO b2 (Nat.le_refl _)
                clear f0 f1 f2 f3 f4 f5 b2 c0 c1 c2 d0 d1 d2 hO
                go_wp2
                go_roundw
                case rel => exact ⟨m + 1, _, rfl, by omega, by go_num, by rw [HR.out]; exact ⟨g, cc, rfl, hgc, O2⟩, B2⟩
                case measure => simp [intOf]; omega
              · rw [hal] at ha
                have HA := Lib.hid ha
                have HR := Lib.hid (HYES.out hal)
                clear ha hal
                go_wp2_with fail
                have f0 : ∀ p : Later wr.heap.size wr, p.W.cell? ⟨b, o + k * 3, none⟩ = some (.int .i64 X.e) := Later.cell c0 hbw
                have f1 : ∀ p : Later wr.heap.size wr, p.W.cell? ⟨b, o + k * 3 + 1, none⟩ = some (.int .i64 X.j) := Later.cell c1 hbw
                have f2 : ∀ p : Later wr.heap.size wr, p.W.cell? ⟨b, o + k * 3 + 2, none⟩ = some (.bool X.o) := Later.cell c2 hbw
                have f3 : ∀ p : Later wr.heap.size wr, p.W.cell? ⟨b, o + m * 3, none⟩ = some (.int .i64 Y.e) := Later.cell d0 hbw
                have f4 : ∀ p : Later wr.heap.size wr, p.W.cell? ⟨b, o + m * 3 + 1, none⟩ = some (.int .i64 Y.j) := Later.cell d1 hbw
                have f5 : ∀ p : Later wr.heap.size wr, p.W.cell? ⟨b, o + m * 3 + 2, none⟩ = some (.bool Y.o) := Later.cell d2 hbw
                refine Later.wp_region_later (wr.heap.size) (by kernel_rfl) (by kernel_rfl) ?_
                repeat (first | go_big_quiet_step ((go_at_call 47; exact later_gives (by omega) (HA.out _))) | quiet_step ((go_at_call 47; exact later_gives (by omega) (HA.out _))))
                refine wpQuiet_nil ?_
                rintro w2 ⟨q2, hq2⟩
                have b2 := q2.h
                rw [← hq2] at b2
                clear hq2 q2
                have B2 := hB.trans (b2.mono hsz)
                have e0 := (b2.cell (p := ⟨b, o + k * 3, none⟩) hbw).trans c0
                have e1 := (b2.cell (p := ⟨b, o + m * 3, none⟩) hbw).trans d0
                obtain ⟨g, cc, rfl, hgc, hO⟩ := HOW.out
                have O2 := own_below hO b2 (Nat.le_refl _)
                clear f0 f1 f2 f3 f4 f5 b2 c0 c1 c2 d0 d1 d2 hO
                obtain ⟨L, hL⟩ : ∃ L, L = sorted (rawTo ns k ++ rowTo ns k m) := ⟨_, rfl⟩
                have HLL := Lib.hid hL
                rw [← hL] at O2 hgc ⊢
                have hrl : L.length ≤ 300 := by have := HRL.out; rw [hL]; exact this
                clear hL
                obtain ⟨N, hNN⟩ : ∃ N, N = L.length := ⟨_, rfl⟩
                have HNN := Lib.hid hNN
                rw [← hNN] at O2 hgc hrl ⊢
                have HPUT := Lib.hid (show put L ⟨k, m, X.e - Y.e⟩ = sorted (rawTo ns k ++ rowTo ns k (m + 1)) by rw [HLL.out, put_sorted, HR.out, List.append_assoc])
                have HO2 := Lib.hid (fun W (h : Below w2.heap.size w2 W) => own_below O2 h (Nat.le_refl _))
                have hb2 := B2.size
                clear hNN O2
                go_wp2_with fail
                refine wp_region_tail 15 (by kernel_rfl) (by kernel_rfl) ?_
                intro w3 hw3
                have B3 : Below w2.heap.size w2 w3 := by rw [hw3]; exact (Below.refl _ _).drew
                have q0 := (B3.cell (p := ⟨b, o + k * 3, none⟩) (by show b < w2.heap.size; omega)).trans e0
                have q1 := (B3.cell (p := ⟨b, o + m * 3, none⟩) (by show b < w2.heap.size; omega)).trans e1
                clear hw3 e0 e1
                obtain ⟨⟨xe0, xe1⟩, _⟩ := hbx
                obtain ⟨⟨ye0, ye1⟩, _⟩ := hby
                have HCM := Lib.hid hcm
                clear hcm
                have hwr : IntKind.i64.wrap (X.e - Y.e) = X.e - Y.e := IntWalk.i64_in _ (by omega)
                simp only [List.take_succ_cons, List.take_zero, List.drop_succ_cons, List.drop_zero]
                repeat still_step
                refine wpStill_nil ?_
                clear hwr
                have O3 := HO2.out _ B3
                have hg3 := (O3.lt g rfl).2
                have hB3 := B2.trans (B3.mono B2.size)
                have PC := l31Put L ⟨k, m, X.e - Y.e⟩ g 0 N cc w3 HNN.out hgc (by rcases O3.2 with ⟨h0, _⟩ | ⟨_, _, _, h0, _, _, _, hm, _⟩ <;> cases h0; exact hm) hg3 hrl (fun j hj => by rw [Nat.zero_add]; exact O3.cellAt j hj)
                have HPC := Lib.hid PC
                clear PC O3 B3 q0 q1 HO2
                go_wp2_with fail
                refine HPC.out.mono ?_
                rintro e w4 ⟨v4, rfl, O4, b4⟩
                have B4 := hB3.trans (b4.mono hB3.size)
                have L4 := LRow.of (own_base O4 hB3.size) (by rw [put_len]; omega)
                rw [HPUT.out] at L4
                clear O4 b4 HPC hB3
                go_wp2
                go_roundw
                case rel => exact ⟨m + 1, v4, rfl, by omega, by go_num, L4, B4⟩
                case measure => simp [intOf]; omega
            · obtain rfl : m = k := by omega
              have e : rawTo ns m ++ rowTo ns m m = rawTo ns (m + 1) := (rawTo_succ ns m).symm
              rw [e] at HOW
              clear e
              go_wp2
              go_roundw
              case rel => exact ⟨m + 1, v1, rfl, by omega, by go_num, HOW.out, hB⟩
              case measure => simp [intOf]; omega
        · obtain rfl : k = n := by omega
          have e : rawTo ns k = raw ns := by unfold raw; rw [← HN.out]
          rw [e] at HOW
          obtain ⟨g, cc, rfl, hgc, hO⟩ := HOW.out
          clear e
          go_wp2
          go_ret
          exact ⟨_, rfl, by rw [HL.out]; exact hO, hB⟩

end Go.Proofs.Ytgkgdnocleajcaa.LinesS
