/-
  Contracts of MatchLines, the program's and the reference's.
-/
import Derived.Test.YthdmpiioecogpaaMatchBest
namespace Go.Proofs.Ythdmpiioecogpaa.MatchLines
open Go.Sort Go.RowKit Go.Proofs.Ythdmpiioecogpaa.Spin Go.Proofs.Ythdmpiioecogpaa.Row Go.Proofs.Ythdmpiioecogpaa.Plain Go.Proofs.Ythdmpiioecogpaa.Later Go.Proofs.Ythdmpiioecogpaa.Node Go.Proofs.Ythdmpiioecogpaa.Line Go.Proofs.Ythdmpiioecogpaa.LinesFn Go.Proofs.Ythdmpiioecogpaa.LinesS Go.Proofs.Ythdmpiioecogpaa.LinesP Go.Proofs.Ythdmpiioecogpaa.Nearest Go.Proofs.Ythdmpiioecogpaa.MatchBest
set_option linter.unusedVariables false
set_option linter.unusedSimpArgs false

def matchOf (ns : List Nd) (x t : Int) : List Ln := if seenOk x t = true then matching (linesOf ns) x t else []
theorem matchOf_yes {ns : List Nd} {x t : Int} (h : seenOk x t = true) : matchOf ns x t = matching (linesOf ns) x t := by simp [matchOf, h]
theorem matchOf_no {ns : List Nd} {x t : Int} (h : seenOk x t = false) : matchOf ns x t = [] := by simp [matchOf, h]
theorem matchOf_bad {ns : List Nd} {x t : Int} (h : schemeOk ns = false) : matchOf ns x t = [] := by simp [matchOf, matching, linesOf_no h]
theorem match_len (ns : List Nd) (x t : Int) : (matchOf ns x t).length ≤ 144 := by
  unfold matchOf
  split
  · exact Nat.le_trans (List.length_filter_le _ _) (linesOf_len ns)
  · simp
theorem match_range {l : List Ln} (h : Asc l) {x t : Int} (ht : 0 ≤ t) : firstAt l (x - t) ≤ firstAt l (x + t + 1) ∧ matching l x t = (l.drop (firstAt l (x - t))).take (firstAt l (x + t + 1) - firstAt l (x - t)) := by
  have s1 := firstAt_spec h (x - t)
  have s2 := firstAt_spec h (x + t + 1)
  have l1 := firstAt_le l (x - t)
  have l2 := firstAt_le l (x + t + 1)
  have hab : firstAt l (x - t) ≤ firstAt l (x + t + 1) := by
    rcases Nat.lt_or_ge (firstAt l (x + t + 1)) (firstAt l (x - t)) with g | g
    · have a1 := s1.1 _ g
      have a2 := s2.2 _ (Nat.le_refl _) (by omega)
      omega
    · exact g
  refine ⟨hab, filter_range _ _ _ hab l2 ?_ ?_ ?_⟩
  · intro i hi
    have := s1.1 i hi
    rw [decide_eq_false_iff_not]; unfold absD; split <;> omega
  · intro i h1 h2
    have a1 := s1.2 i h1 (by omega)
    have a2 := s2.1 i h2
    rw [decide_eq_true_eq]; unfold absD; split <;> omega
  · intro i h1 h2
    have a2 := s2.2 i h1 h2
    rw [decide_eq_false_iff_not]; unfold absD; split <;> omega

def mpart (l : List Ln) (x t : Int) (m : Nat) : List Ln := (l.take m).filter fun y => decide (absD (y.n - x) ≤ t)
theorem mpart_yes {l : List Ln} {x t : Int} {m : Nat} (hm : m < l.length) (h : absD (l[m].n - x) ≤ t) : mpart l x t (m + 1) = mpart l x t m ++ [l[m]] := by
  unfold mpart
  rw [List.take_succ_eq_append_getElem hm, List.filter_append]
  simp [h]
theorem mpart_no {l : List Ln} {x t : Int} {m : Nat} (hm : m < l.length) (h : ¬ absD (l[m].n - x) ≤ t) : mpart l x t (m + 1) = mpart l x t m := by
  unfold mpart
  rw [List.take_succ_eq_append_getElem hm, List.filter_append]
  simp [h]
theorem mpart_len (l : List Ln) (x t : Int) (m : Nat) : (mpart l x t m).length ≤ m := Nat.le_trans (List.length_filter_le _ _) (by rw [List.length_take]; omega)
theorem mpart_all (l : List Ln) (x t : Int) (m : Nat) (h : l.length ≤ m) : mpart l x t m = matching l x t := by unfold mpart matching; rw [List.take_of_length_le h]

set_option maxRecDepth 100000 in
set_option maxHeartbeats 1000000 in
theorem atFrom (l : List Ln) (v : Value) (p1 p2 p3 : Nat) (x t : Int) (i : Nat) (W : World) (hs : Sees W 3 v l.length (l.flatMap encLn)) (hi : i < l.length) (hx : 0 ≤ x ∧ x ≤ 200000) (ht : 0 ≤ t ∧ t ≤ 1000) (h1 : W.cell? ⟨p1, 0, none⟩ = some v) (h2 : W.cell? ⟨p2, 0, none⟩ = some (.int .i64 x)) (h3 : W.cell? ⟨p3, 0, none⟩ = some (.int .i64 t)) :
    Calls Try.prog 66 (#[.int .i64 i] ++ #[.pointer (some ⟨p1, 0, none⟩), .pointer (some ⟨p2, 0, none⟩), .pointer (some ⟨p3, 0, none⟩)]) W fun e w' => e = .returned (.bool (decide (x - t ≤ (lth l i).n))) ∧ ∃ q, w' = W.drewN q := by
  rcases hs.2 with ⟨h0, _⟩ | ⟨b, o, c, rfl, hnc, hcm, hb, hcell⟩
  · omega
  · obtain ⟨_, _, u2⟩ := line_cells (w := W) (xs := l) (b := b) (o := o) hcell i hi
    rw [← lth_eq hi] at u2
    generalize (lth l i).n = y at *
    obtain ⟨n, hn⟩ : ∃ n, n = l.length := ⟨_, rfl⟩
    rw [← hn] at hi h1
    have hi0 : (0 : Int) ≤ (i : Int) := by omega
    have hi1 : (i : Int) < (n : Int) := by omega
    obtain ⟨hx0, hx1⟩ := hx
    obtain ⟨ht0, ht1⟩ := ht
    clear hs hcell hn hcm hnc
    show Calls Try.prog 66 #[.int .i64 i, .pointer (some ⟨p1, 0, none⟩), .pointer (some ⟨p2, 0, none⟩), .pointer (some ⟨p3, 0, none⟩)] W _
    go_enter Try.func66, Try.ntmps66
    go_wp2
    go_quiet (fail)
    go_wp2
    go_ret
    exact ⟨rfl, _, rfl⟩

set_option maxRecDepth 100000 in
set_option maxHeartbeats 1000000 in
theorem fromSearch (l : List Ln) (v : Value) (p1 p2 p3 : Nat) (x t : Int) (w : World) (hs : Sees w 3 v l.length (l.flatMap encLn)) (hx : 0 ≤ x ∧ x ≤ 200000) (ht : 0 ≤ t ∧ t ≤ 1000) (h1 : w.cell? ⟨p1, 0, none⟩ = some v) (h2 : w.cell? ⟨p2, 0, none⟩ = some (.int .i64 x)) (h3 : w.cell? ⟨p3, 0, none⟩ = some (.int .i64 t)) (hp1 : p1 < w.heap.size) (hp2 : p2 < w.heap.size) (hp3 : p3 < w.heap.size) (hasc : Asc l) (hl : l.length ≤ 1000) (n : Nat) (hn : n = l.length) :
    Calls Try.prog 65 #[.int .i64 (n : Int), .func (.func 66) #[] #[.pointer (some ⟨p1, 0, none⟩), .pointer (some ⟨p2, 0, none⟩), .pointer (some ⟨p3, 0, none⟩)]] w (Gives (.int .i64 (firstAt l (x - t) : Nat)) w) := by
  subst hn
  have eg : ∀ args w, (callFunc 66 args).run Try.prog w = .ok (.enter 66 args) w := enters_of Try.func66 (by kernel_rfl) rfl
  have hS := Any.sort_Search Shelf.laysSearch 66 #[.pointer (some ⟨p1, 0, none⟩), .pointer (some ⟨p2, 0, none⟩), .pointer (some ⟨p3, 0, none⟩)] l.length (fun i => decide (x - t ≤ (lth l i).n)) w eg (by omega)
    (fun m os i hi => (atFrom l v p1 p2 p3 x t i _ (hs.below (grow_below _ m os) (Nat.le_refl _)) hi hx ht (((grow_below _ m os).cell (p := ⟨p1, 0, none⟩) hp1).trans h1) (((grow_below _ m os).cell (p := ⟨p2, 0, none⟩) hp2).trans h2) (((grow_below _ m os).cell (p := ⟨p3, 0, none⟩) hp3).trans h3)).mono
      fun _ _ ⟨he, q, hq⟩ => ⟨he, q, #[], by rw [hq, grow_empty]⟩) (firstAt_mono hasc (x - t))
  have hS' : Calls Try.prog 65 #[.int .i64 (l.length : Int), .func (.func 66) #[] #[.pointer (some ⟨p1, 0, none⟩), .pointer (some ⟨p2, 0, none⟩), .pointer (some ⟨p3, 0, none⟩)]] w fun e w' => e = .returned (.int .i64 (firstAt l (x - t) : Nat)) ∧ ∃ q os, w' = grow (w.drewN q) os := hS
  exact hS'.mono fun e w' ⟨he, q, os, hw⟩ => ⟨he, by rw [hw]; exact grow_below _ q os⟩

set_option maxRecDepth 100000 in
set_option maxHeartbeats 1000000 in
theorem atTo (l : List Ln) (v : Value) (p1 p2 p3 : Nat) (x t : Int) (i : Nat) (W : World) (hs : Sees W 3 v l.length (l.flatMap encLn)) (hi : i < l.length) (hx : 0 ≤ x ∧ x ≤ 200000) (ht : 0 ≤ t ∧ t ≤ 1000) (h1 : W.cell? ⟨p1, 0, none⟩ = some v) (h2 : W.cell? ⟨p2, 0, none⟩ = some (.int .i64 x)) (h3 : W.cell? ⟨p3, 0, none⟩ = some (.int .i64 t)) :
    Calls Try.prog 67 (#[.int .i64 i] ++ #[.pointer (some ⟨p1, 0, none⟩), .pointer (some ⟨p2, 0, none⟩), .pointer (some ⟨p3, 0, none⟩)]) W fun e w' => e = .returned (.bool (decide (x + t + 1 ≤ (lth l i).n))) ∧ ∃ q, w' = W.drewN q := by
  rcases hs.2 with ⟨h0, _⟩ | ⟨b, o, c, rfl, hnc, hcm, hb, hcell⟩
  · omega
  · obtain ⟨_, _, u2⟩ := line_cells (w := W) (xs := l) (b := b) (o := o) hcell i hi
    rw [← lth_eq hi] at u2
    generalize (lth l i).n = y at *
    obtain ⟨n, hn⟩ : ∃ n, n = l.length := ⟨_, rfl⟩
    rw [← hn] at hi h1
    have hi0 : (0 : Int) ≤ (i : Int) := by omega
    have hi1 : (i : Int) < (n : Int) := by omega
    obtain ⟨hx0, hx1⟩ := hx
    obtain ⟨ht0, ht1⟩ := ht
    clear hs hcell hn hcm hnc
    show Calls Try.prog 67 #[.int .i64 i, .pointer (some ⟨p1, 0, none⟩), .pointer (some ⟨p2, 0, none⟩), .pointer (some ⟨p3, 0, none⟩)] W _
    go_enter Try.func67, Try.ntmps67
    go_wp2
    go_quiet (fail)
    go_wp2
    go_ret
    exact ⟨ret_bool (by rfl), _, rfl⟩

set_option maxRecDepth 100000 in
set_option maxHeartbeats 1000000 in
theorem toSearch (l : List Ln) (v : Value) (p1 p2 p3 : Nat) (x t : Int) (w : World) (hs : Sees w 3 v l.length (l.flatMap encLn)) (hx : 0 ≤ x ∧ x ≤ 200000) (ht : 0 ≤ t ∧ t ≤ 1000) (h1 : w.cell? ⟨p1, 0, none⟩ = some v) (h2 : w.cell? ⟨p2, 0, none⟩ = some (.int .i64 x)) (h3 : w.cell? ⟨p3, 0, none⟩ = some (.int .i64 t)) (hp1 : p1 < w.heap.size) (hp2 : p2 < w.heap.size) (hp3 : p3 < w.heap.size) (hasc : Asc l) (hl : l.length ≤ 1000) (n : Nat) (hn : n = l.length) :
    Calls Try.prog 65 #[.int .i64 (n : Int), .func (.func 67) #[] #[.pointer (some ⟨p1, 0, none⟩), .pointer (some ⟨p2, 0, none⟩), .pointer (some ⟨p3, 0, none⟩)]] w (Gives (.int .i64 (firstAt l (x + t + 1) : Nat)) w) := by
  subst hn
  have eg : ∀ args w, (callFunc 67 args).run Try.prog w = .ok (.enter 67 args) w := enters_of Try.func67 (by kernel_rfl) rfl
  have hS := Any.sort_Search Shelf.laysSearch 67 #[.pointer (some ⟨p1, 0, none⟩), .pointer (some ⟨p2, 0, none⟩), .pointer (some ⟨p3, 0, none⟩)] l.length (fun i => decide (x + t + 1 ≤ (lth l i).n)) w eg (by omega)
    (fun m os i hi => (atTo l v p1 p2 p3 x t i _ (hs.below (grow_below _ m os) (Nat.le_refl _)) hi hx ht (((grow_below _ m os).cell (p := ⟨p1, 0, none⟩) hp1).trans h1) (((grow_below _ m os).cell (p := ⟨p2, 0, none⟩) hp2).trans h2) (((grow_below _ m os).cell (p := ⟨p3, 0, none⟩) hp3).trans h3)).mono
      fun _ _ ⟨he, q, hq⟩ => ⟨he, q, #[], by rw [hq, grow_empty]⟩) (firstAt_mono hasc (x + t + 1))
  have hS' : Calls Try.prog 65 #[.int .i64 (l.length : Int), .func (.func 67) #[] #[.pointer (some ⟨p1, 0, none⟩), .pointer (some ⟨p2, 0, none⟩), .pointer (some ⟨p3, 0, none⟩)]] w fun e w' => e = .returned (.int .i64 (firstAt l (x + t + 1) : Nat)) ∧ ∃ q os, w' = grow (w.drewN q) os := hS
  exact hS'.mono fun e w' ⟨he, q, os, hw⟩ => ⟨he, by rw [hw]; exact grow_below _ q os⟩

set_option maxRecDepth 100000 in
/-- the slice expression v[a:b] on lines -/
theorem run_part (g n c a b : Nat) (h : a ≤ b) (hb : b ≤ n) (hc : n ≤ c) (W : World) : (Instr.slice 28 (.slice (some ⟨g, 0, none⟩) n c) (some (.int .i64 (a : Int))) (some (.int .i64 (b : Int))) none).run Try.prog W = .ok (.slice (some (if c = a then ⟨g, 0, none⟩ else ⟨g, 0 + a * 3, none⟩)) (b - a) (c - a)) W := by
  have hs : (Go.sizeOf (Try.prog.elem 28)).run Try.prog W = .ok 3 W := Try.sizeOf31 W
  rw [run_slice_lh (P := Try.prog) W 28 (some ⟨g, 0, none⟩) n c Try.underlying28 .i64 .i64 (a : Int) (b : Int) (by omega) (by omega) (by omega), hs]
  simp only [Result.andThen, sliced, Int.toNat_natCast]
  by_cases e : c = a
  · simp [e, Go.WideShapes.add_plain, Addr.add]
  · simp [e, Go.WideShapes.add_plain, Addr.add]
    intro h0; omega

set_option maxRecDepth 100000 in
set_option maxHeartbeats 2000000 in
theorem iMatchLines (ns : List Nd) (v : Value) (x t : Int) (w : World) (hs : Sees w 3 v ns.length (ns.flatMap encN)) :
    Calls Try.prog 39 #[v, .int .i64 x, .int .i64 t] w (GivesRow 31 3 (matchOf ns x t).length ((matchOf ns x t).flatMap encLn) w) := by
  obtain ⟨i0, hi, hz0, hz1, hz2⟩ := info_parts infoLine
  have HI := Lib.hid hi
  have HZ0 := Lib.hid hz0
  have HZ1 := Lib.hid hz1
  have HZ2 := Lib.hid hz2
  clear hi hz0 hz1 hz2
  have hB0 : Below w.heap.size w ((w.alloc (.cells #[.int .i64 x] 3)).alloc (.cells #[.int .i64 t] 3)) := Below.trans (by repeat (first | (with_reducible refine Below.drew ?_) | (with_reducible refine below_drewN ?_ _) | (with_reducible refine Below.alloc ?_ ?_ _) | (with_reducible refine Below.setCell ?_ ?_ _) | (with_reducible assumption) | (with_reducible exact Below.refl _ _) | omega | (simp <;> omega))) (by repeat (first | (with_reducible refine Below.drew ?_) | (with_reducible refine below_drewN ?_ _) | (with_reducible refine Below.alloc ?_ ?_ _) | (with_reducible refine Below.setCell ?_ ?_ _) | (with_reducible assumption) | (with_reducible exact Below.refl _ _) | omega | (simp <;> omega)))
  have HL := Lib.hid (iSchemeLines ns v _ (hs.below hB0 (Nat.le_refl _)))
  have hl144 := linesOf_len ns
  have hasc := lines_asc ns
  have HB0 := Lib.hid hB0
  clear hs hB0
  cases hsn : seenOk x t
  · have HE := Lib.hid (matchOf_no (ns := ns) hsn)
    go_enter Try.func39, Try.ntmps39
    go_wp2_with fail
    (with_reducible refine (seen_is _ hsn).mono ?_)
    rintro e w' ⟨rfl, rfl⟩
    go_wp2
    go_ret
    exact ⟨_, rfl, by rw [HE.out]; exact World.ownsRow_nil _ _ _ _, HB0.out⟩
  · obtain ⟨hx, ht⟩ := seenOk_true.1 hsn
    have HE := Lib.hid (matchOf_yes (ns := ns) hsn)
    obtain ⟨hab, hmr⟩ := match_range hasc (x := x) ht.1
    have hle := firstAt_le (linesOf ns) (x + t + 1)
    have HFS := Lib.hid (fun v p1 p2 p3 W a b c d e f g n h => fromSearch (linesOf ns) v p1 p2 p3 x t W a hx ht b c d e f g hasc (by omega) n h)
    have HTS := Lib.hid (fun v p1 p2 p3 W a b c d e f g n h => toSearch (linesOf ns) v p1 p2 p3 x t W a hx ht b c d e f g hasc (by omega) n h)
    rw [HE.out]
    generalize linesOf ns = l at *
    rw [hmr]
    generalize firstAt l (x - t) = a at *
    generalize firstAt l (x + t + 1) = b at *
    obtain ⟨P, hP⟩ : ∃ P, P = (l.drop a).take (b - a) := ⟨_, rfl⟩
    rw [← hP]
    have HP := Lib.hid hP
    clear hmr HE hasc hx ht hP
    go_enter Try.func39, Try.ntmps39
    go_wp2_with fail
    (with_reducible refine (seen_is _ hsn).mono ?_)
    rintro e w' ⟨rfl, rfl⟩
    go_wp2_with fail
    refine HL.out.mono ?_
    rintro e w1 ⟨v1, rfl, O1, b1⟩
    have x0 : w1.cell? ⟨w.heap.size, 0, none⟩ = some (.int .i64 x) := (b1.cell (p := ⟨w.heap.size, 0, none⟩) (by simp; omega)).trans (by simp)
    have x1 : w1.cell? ⟨w.heap.size + 1, 0, none⟩ = some (.int .i64 t) := (b1.cell (p := ⟨w.heap.size + 1, 0, none⟩) (by simp)).trans (by simp)
    have B1 := HB0.out.trans (b1.mono HB0.out.size)
    have hz1 : w.heap.size + 2 ≤ w1.heap.size := by have := b1.size; simp at this; omega
    replace O1 := own_base O1 (show w.heap.size ≤ _ from HB0.out.size)
    clear HL HB0 b1 hsn
    obtain ⟨n, hn⟩ : ∃ n, n = l.length := ⟨_, rfl⟩
    have HN := Lib.hid hn
    rw [← hn] at O1 hl144 hle
    have hW2 : Below w1.heap.size w1 (w1.alloc (.cells #[v1] 28)) := (by repeat (first | (with_reducible refine Below.drew ?_) | (with_reducible refine below_drewN ?_ _) | (with_reducible refine Below.alloc ?_ ?_ _) | (with_reducible refine Below.setCell ?_ ?_ _) | (with_reducible assumption) | (with_reducible exact Below.refl _ _) | omega | (simp <;> omega)))
    obtain ⟨W2, hW2e⟩ : ∃ W2, W2 = w1.alloc (.cells #[v1] 28) := ⟨_, rfl⟩
    have hsz2 : W2.heap.size = w1.heap.size + 1 := by rw [hW2e]; simp
    have y0 : W2.cell? ⟨w1.heap.size, 0, none⟩ = some v1 := by rw [hW2e]; simp
    have O2 := own_below O1 hW2 (Nat.le_refl _)
    have y1 := (hW2.cell (p := ⟨w.heap.size, 0, none⟩) (show w.heap.size < w1.heap.size by omega)).trans x0
    have y2 := (hW2.cell (p := ⟨w.heap.size + 1, 0, none⟩) (show w.heap.size + 1 < w1.heap.size by omega)).trans x1
    have B2 := B1.trans (hW2.mono B1.size)
    rw [← hW2e] at O2 y1 y2 B2
    have HS2 := Lib.hid (fun W (h : Below W2.heap.size W2 W) => show Sees W 3 v1 l.length (l.flatMap encLn) by rw [← HN.out]; exact Sees.of_own (own_below O2 h (Nat.le_refl _)))
    have HF := Lib.hid (HFS.out v1 w1.heap.size w.heap.size (w.heap.size + 1) W2 (HS2.out _ (Below.refl _ _)) y0 y1 y2 (by omega) (by omega) (by omega) n HN.out)
    have HT := Lib.hid (fun W (h : Below W2.heap.size W2 W) => HTS.out v1 w1.heap.size w.heap.size (w.heap.size + 1) W (HS2.out _ h) ((h.cell (p := ⟨w1.heap.size, 0, none⟩) (by simp [hsz2])).trans y0) ((h.cell (p := ⟨w.heap.size, 0, none⟩) (by simp; omega)).trans y1) ((h.cell (p := ⟨w.heap.size + 1, 0, none⟩) (by simp; omega)).trans y2) (by have := h.size; omega) (by have := h.size; omega) (by have := h.size; omega) n HN.out)
    have HY := Lib.hid (fun W (h : Below W2.heap.size W2 W) => (h.cell (p := ⟨w1.heap.size, 0, none⟩) (by simp [hsz2])).trans y0)
    have HB2 := Lib.hid B2
    have HSZ2 := Lib.hid hsz2
    rw [hW2e] at HF
    have HW2e := Lib.hid hW2e
    clear hn HFS HTS x0 x1 y0 y1 y2 O1 B1 B2 hW2 hsz2 hW2e
    rcases O2.2 with ⟨hnil, h0⟩ | ⟨g, cap, cur, hv, hg0, hg1, hgc, hgm, _, _⟩
    · subst hnil
      subst h0
      obtain rfl : b = 0 := by omega
      obtain rfl : a = 0 := by omega
      go_wp2_with fail
      refine HF.out.mono ?_
      rintro e w3 ⟨rfl, b3⟩
      rw [← HW2e.out] at b3
      have z3 := HY.out w3 b3
      have HT3 := Lib.hid (HT.out w3 b3)
      clear HF HW2e
      go_wp2_with fail
      refine HT3.out.mono ?_
      rintro e w4 ⟨rfl, b4⟩
      have b34 := b3.trans (b4.mono b3.size)
      have z4 := HY.out w4 b34
      have B4 := HB2.out.trans (b34.mono HB2.out.size)
      clear HT3 HT HY b3 b4 b34 z3
      go_wp2_with (at_builtin; refine wpList_append_own_none rfl _ _ 28 rfl w.heap.size 31 i0 3 Try.underlying28 HI.out _ _ _ rfl (World.ownsRow_nil _ _ _ _) rfl ?_)
      go_wp2
      go_ret
      exact ⟨_, rfl, by rw [HP.out]; simp; exact World.ownsRow_nil _ _ _ _, B4⟩
    · subst hv
      have HG1 := Lib.hid (lt_of_block hg1)
      have HC2 := Lib.hid (fun j (hj : j < n * 3) => show W2.cell? ⟨g, 0 + j, none⟩ = (l.flatMap encLn)[j]? by rw [Nat.zero_add]; exact O2.cellAt j hj)
      have HCL := Lib.hid O2.1
      unfold maxLen at hgm
      clear hg1 O2
      go_wp2_with fail
      refine HF.out.mono ?_
      rintro e w3 ⟨rfl, b3⟩
      rw [← HW2e.out] at b3
      have z3 := HY.out w3 b3
      have HT3 := Lib.hid (HT.out w3 b3)
      clear HF HW2e
      go_wp2_with fail
      refine HT3.out.mono ?_
      rintro e w4 ⟨rfl, b4⟩
      have b34 := b3.trans (b4.mono b3.size)
      have z4 := HY.out w4 b34
      have B4 := HB2.out.trans (b34.mono HB2.out.size)
      have HK := Lib.hid (fun j => b34.cell (p := ⟨g, j, none⟩) HG1.out)
      clear HT3 HT HY b3 b4 b34 z3
      have HM := Lib.hid (show P.flatMap encLn = ((l.flatMap encLn).drop (a * 3)).take ((b - a) * 3) by
        rw [HP.out, flat_take' encLn 3 encLn_len _ _ (by rw [List.length_drop, ← HN.out]; omega), flat_drop encLn 3 encLn_len l a (by rw [← HN.out]; omega)])
      have HML := Lib.hid (show P.length = b - a by rw [HP.out, List.length_take, List.length_drop, ← HN.out]; omega)
      obtain ⟨ad, had⟩ : ∃ ad : Addr, ad = (if cap = a then ⟨g, 0, none⟩ else ⟨g, 0 + a * 3, none⟩) := ⟨_, rfl⟩
      have hsl := run_part g n cap a b (by omega) (by omega) (by omega)
      rw [← had] at hsl
      have HTL := Lib.hid (show (P.flatMap encLn).length = (b - a) * 3 by rw [flat_length encLn 3 encLn_len, HML.out])
      have HT3 := Lib.hid (part_cells (a := a * 3) (W := w4) HC2.out HCL.out HK.out)
      have HT4 := Lib.hid (show ∀ j u, (P.flatMap encLn)[j]? = some u → w4.cell? (ad.add j) = some u by
        intro j u hu
        have hlt := (List.getElem?_eq_some_iff.1 hu).1
        have h2 := HTL.out
        by_cases e : cap = a
        · omega
        · rw [had, if_neg e]
          rw [HM.out, List.getElem?_take_of_lt (by omega)] at hu
          exact HT3.out j u hu)
      have HT2 := Lib.hid (fun u (hu : u ∈ P.flatMap encLn) => one_encLn _ u hu)
      clear had HT3 HM HK HC2 HCL
      have hz4 := B4.size
      go_wp2_with (at_builtin; refine wpList_append_own _ rfl _ _ 28 rfl w.heap.size 31 i0 (.agg #[.int .i64 0, .int .i64 0, .int .i64 0]) 3 24 Try.underlying28 HI.out HZ0.out HZ1.out HZ2.out rfl (by decide) _ _ _ rfl (World.ownsRow_nil _ _ _ _) ad (b - a) (cap - a) (P.flatMap encLn) rfl HTL.out HT4.out HT2.out (by unfold maxLen; omega) (by omega) (by omega) ?_)
      intro v5 w5 O5 g5 _
      (try simp only [Nat.zero_add, List.nil_append] at O5)
      have B5 : Below w.heap.size w w5 := B4.grown g5 (by omega) (fun k hk => by simp [Value.ownBlock] at hk)
      clear g5 z4 hsl
      go_wp2
      go_ret
      exact ⟨v5, rfl, by rw [HML.out]; exact O5, B5⟩

set_option maxRecDepth 100000 in
set_option maxHeartbeats 2000000 in
theorem sMatchLines (ns : List Nd) (v : Value) (x t : Int) (w : World) (hs : Sees w 3 v ns.length (ns.flatMap encN)) :
    Calls Try.prog 40 #[v, .int .i64 x, .int .i64 t] w (GivesRow 31 3 (matchOf ns x t).length ((matchOf ns x t).flatMap encLn) w) := by
  obtain ⟨i0, hi, hz0, hz1, hz2⟩ := info_parts infoLine
  have HI := Lib.hid hi
  have HZ0 := Lib.hid hz0
  have HZ1 := Lib.hid hz1
  have HZ2 := Lib.hid hz2
  clear hi hz0 hz1 hz2
  have HE0 := Lib.hid (own_emptyL w w.heap.size (Nat.le_refl _))
  have hB0 : Below w.heap.size w (w.alloc (.cells #[] 31)) := (by repeat (first | (with_reducible refine Below.drew ?_) | (with_reducible refine below_drewN ?_ _) | (with_reducible refine Below.alloc ?_ ?_ _) | (with_reducible refine Below.setCell ?_ ?_ _) | (with_reducible assumption) | (with_reducible exact Below.refl _ _) | omega | (simp <;> omega)))
  have HB0 := Lib.hid hB0
  have HSS := Lib.hid (fun W (h : Below w.heap.size w W) => hs.below h (Nat.le_refl _))
  have hl144 := linesOf_len ns
  clear hs hB0
  cases hok : (schemeOk ns && seenOk x t)
  · have HE := Lib.hid (show matchOf ns x t = [] by
      cases h1 : schemeOk ns
      · exact matchOf_bad h1
      · rw [h1] at hok; exact matchOf_no (by simpa using hok))
    have HC := Lib.hid (ok_is hok (HSS.out _ HB0.out))
    clear hok
    go_enter Try.func40, Try.ntmps40
    go_wp2_with fail
    refine HC.out.mono ?_
    rintro e w1 ⟨rfl, b1⟩
    have O1 := own_below HE0.out b1 (Nat.le_refl _)
    have B1 := HB0.out.trans (b1.mono HB0.out.size)
    clear HC b1 HE0 HB0
    go_wp2
    go_ret
    exact ⟨_, rfl, by rw [HE.out]; exact O1, B1⟩
  · have h12 : schemeOk ns = true ∧ seenOk x t = true := by simpa using hok
    obtain ⟨⟨hx0, hx1⟩, ht0, ht1⟩ := seenOk_true.1 h12.2
    have HE := Lib.hid (matchOf_yes (ns := ns) h12.2)
    have HC := Lib.hid (ok_is hok (HSS.out _ HB0.out))
    have hbd := line_bd ns
    clear hok h12
    go_enter Try.func40, Try.ntmps40
    go_wp2_with fail
    refine HC.out.mono ?_
    rintro e w1 ⟨rfl, b1⟩
    have Q1 := own_below HE0.out b1 (Nat.le_refl _)
    have B1 := HB0.out.trans (b1.mono HB0.out.size)
    have HZW := Lib.hid (show w.heap.size < w1.heap.size by have := b1.size; simp at this; omega)
    have HL := Lib.hid (sSchemeLines ns v _ (HSS.out _ B1))
    clear HC b1 HE0 HB0
    go_wp2_with fail
    refine HL.out.mono ?_
    rintro e w2 ⟨v2, rfl, O2, b2⟩
    have Q2 := own_below Q1 b2 (Nat.le_refl _)
    have B2 := B1.trans (b2.mono B1.size)
    have hz12 := B1.size
    have hz2 := B2.size
    clear HL b2 Q1 HSS
    generalize linesOf ns = l at *
    have HBD := Lib.hid hbd
    obtain ⟨n, hn⟩ : ∃ n, n = l.length := ⟨_, rfl⟩
    have HN := Lib.hid hn
    rw [← hn] at O2 hl144
    have hz11 := HZW.out
    clear hn hbd HZW
    rcases O2.2 with ⟨hnil, h0⟩ | ⟨b, c, cur, hv, hb0, hb1, hnc, hcm, _, _⟩
    · have HEN := Lib.hid (List.eq_nil_of_length_eq_zero (HN.out.symm.trans h0))
      subst h0
      subst hnil
      clear O2
      go_wp2
      go_loopw [7, 9] (fun u i wr => u = .slice (some ⟨w.heap.size, 0, none⟩) 0 0 ∧ i = .int .i64 0 ∧ w2 = wr) (fun _ _ _ => 0)
      case atStart => exact ⟨rfl, rfl, rfl⟩
      case round =>
        obtain ⟨rfl, rfl, rfl⟩ := hrel
        go_wp2
        go_ret
        exact ⟨_, rfl, by rw [HE.out, HEN.out]; exact Q2, B2⟩
    · subst hv
      have hb := lt_of_block hb1
      have HCC := Lib.hid (fun j (hj : j < n * 3) => show w2.cell? ⟨b, 0 + j, none⟩ = (l.flatMap encLn)[j]? by rw [Nat.zero_add]; exact O2.cellAt j hj)
      unfold maxLen at hcm
      clear hb1 O2
      go_wp2
      go_loopw [7, 9] (fun u i wr => ∃ (m : Nat) (v3 : Value), v3 = u ∧ m ≤ n ∧ i = .int .i64 m ∧ wr.ownsRow w.heap.size 31 3 v3 (mpart l x t m).length ((mpart l x t m).flatMap encLn) ∧ Below w.heap.size w wr ∧ Hid (∀ j, wr.cell? ⟨b, j, none⟩ = w2.cell? ⟨b, j, none⟩) ∧ Hid (∀ k, v3.ownBlock = some k → k ≠ b) ∧ b < wr.heap.size) (fun _ i _ => n - (intOf i).toNat)
      case atStart => exact ⟨0, _, rfl, by omega, rfl, by simpa [mpart] using Q2, B2, Lib.hid fun _ => rfl, Lib.hid (by intro k hk; simp [Value.ownBlock] at hk; omega), hb⟩
      case round =>
        obtain ⟨m, v3, rfl, hm, rfl, hown, hB, hK, hV, hbw⟩ := hrel
        have hsz := hB.size
        by_cases hlt : m < n
        · have hkl : m < l.length := by have := HN.out; omega
          obtain ⟨u0, u1, u2⟩ := line_cells (w := wr) (xs := l) (b := b) (o := 0) (fun j hj => (hK.out _).trans (HCC.out j (by have := HN.out; omega))) m hkl
          have hpl := mpart_len l x t m
          have HY := Lib.hid (fun h => mpart_yes (l := l) (x := x) (t := t) hkl h)
          have HNO := Lib.hid (fun h => mpart_no (l := l) (x := x) (t := t) hkl h)
          obtain ⟨yb0, yb1⟩ := HBD.out m hkl
          rw [lth_eq hkl] at yb0 yb1
          have HA := Lib.hid (show ∀ z, absD z = absI z from fun _ => rfl)
          generalize l[m] = y at *
          obtain ⟨yu, yl, yn⟩ := y
          simp only at u0 u1 u2 HY HNO yb0 yb1
          simp only [Nat.zero_add] at u0 u1 u2
          generalize hP : mpart l x t m = P at *
          obtain ⟨pl, hpl'⟩ : ∃ pl, pl = P.length := ⟨_, rfl⟩
          have HPL := Lib.hid hpl'
          rw [← hpl'] at hown hpl
          clear hpl' hP
          by_cases hy : absI (yn - x) ≤ t
          · have HF := Lib.hid (HY.out (by rw [HA.out]; exact hy))
            clear HY HNO
            go_wp2_with fail
            (with_reducible refine (l1Abs _ _ (by omega) (by omega)).mono ?_)
            rintro e w' ⟨rfl, rfl⟩
            go_wp2_with (at_builtin; refine wpList_append_lies _ rfl _ _ 28 rfl w.heap.size 31 i0 (.agg #[.int .i64 0, .int .i64 0, .int .i64 0]) 3 24 Try.underlying28 HI.out HZ0.out HZ1.out HZ2.out rfl (by decide) _ _ _ rfl (hown.alloc _) ⟨wr.heap.size, 0, none⟩ 1 1 [.int .i64 (yu : Int), .int .i64 (yl : Int), .int .i64 yn] rfl rfl (cells_new _ _ _) (by simp [Value.oneCell']) (by omega) (by unfold maxLen; omega) (by omega) (by simp; omega) (wr.heap.size + 1) (by simp) ?_)
            intro gx cx w3 hown' hgrow hgx hgl
            have B3 := own_step hB (Nat.le_refl _) hgrow (fun k hk => (hown.lt k hk).1)
            have O3 : w3.ownsRow w.heap.size 31 3 (.slice (some ⟨gx, 0, none⟩) (pl + 1) cx) (P ++ [(⟨yu, yl, yn⟩ : Ln)]).length ((P ++ [(⟨yu, yl, yn⟩ : Ln)]).flatMap encLn) := by
              rw [List.flatMap_append, List.length_append, ← HPL.out]
              exact hown'
            have K3 := Lib.hid (fun j => (World.cell?_of_block (a := ⟨b, j, none⟩) (hgrow.block b (by simp; omega) (fun h => hV.out b h.symm rfl))).trans ((World.cell?_alloc_lt _ _ _ hbw).trans (hK.out j)))
            have V3 := Lib.hid (show ∀ k, (Value.slice (some ⟨gx, 0, none⟩) (pl + 1) cx).ownBlock = some k → k ≠ b by
              intro k hk
              simp [Value.ownBlock] at hk
              subst hk
              rcases hgx with h | h
              · exact hV.out _ h
              · omega)
            have hz3 := hgrow.size
            simp at hz3
            clear hown' hgrow hown u0 u1 u2 hgx hK hV
            go_wp2
            go_roundw
            case rel => exact ⟨m + 1, _, rfl, by omega, by go_num, by rw [HF.out]; exact O3, B3, K3, V3, by omega⟩
            case measure => simp [intOf]; omega
          · have HF := Lib.hid (HNO.out (by rw [HA.out]; exact hy))
            clear HY HNO
            go_wp2_with fail
            (with_reducible refine (l1Abs _ _ (by omega) (by omega)).mono ?_)
            rintro e w' ⟨rfl, rfl⟩
            go_wp2
            go_roundw
            case rel => exact ⟨m + 1, v3, rfl, by omega, by go_num, by rw [HF.out, ← HPL.out]; exact hown, hB, hK, hV, hbw⟩
            case measure => simp [intOf]; omega
        · obtain rfl : m = n := by omega
          have HP := mpart_all l x t m (by have := HN.out; omega)
          rw [HP] at hown
          clear HP
          go_wp2
          go_ret
          exact ⟨_, rfl, by rw [HE.out]; exact hown, hB⟩

end Go.Proofs.Ythdmpiioecogpaa.MatchLines
