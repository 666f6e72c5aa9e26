/-
  Contracts of the laws' helpers on schemes and lines: the wave number between two nodes, the other parity.
-/
import Derived.Test.YtgkgdnocleajcaaRowsLine
import Derived.Test.YtgkgdnocleajcaaLinesS
import Derived.Test.YtgkgdnocleajcaaDrawScheme
namespace Go.Proofs.Ytgkgdnocleajcaa.LinesHelp
open Go.RowKit Go.Proofs.Ytgkgdnocleajcaa.Spin Go.Proofs.Ytgkgdnocleajcaa.Row Go.Proofs.Ytgkgdnocleajcaa.Plain Go.Proofs.Ytgkgdnocleajcaa.Later Go.Proofs.Ytgkgdnocleajcaa.Node Go.Proofs.Ytgkgdnocleajcaa.Line Go.Proofs.Ytgkgdnocleajcaa.LinesFn Go.Proofs.Ytgkgdnocleajcaa.LinesS Go.Proofs.Ytgkgdnocleajcaa.DrawScheme
set_option linter.unusedVariables false
set_option linter.unusedSimpArgs false

theorem between_nil (u w : Int) : between [] u w = -1 := rfl
theorem between_yes' {x : Ln} {l : List Ln} {u w : Int} (h1 : (x.u : Int) = u) (h2 : (x.l : Int) = w) : between (x :: l) u w = x.n := by simp [between, h1, h2]
theorem between_no1 {x : Ln} {l : List Ln} {u w : Int} (h1 : ¬ (x.u : Int) = u) : between (x :: l) u w = between l u w := by simp [between, h1]
theorem between_no2 {x : Ln} {l : List Ln} {u w : Int} (h2 : ¬ (x.l : Int) = w) : between (x :: l) u w = between l u w := by simp [between, h2]
theorem between_bounds (ns : List Nd) (u w : Int) : -1 ≤ between (linesOf ns) u w ∧ between (linesOf ns) u w ≤ 200000 := by
  unfold between
  cases hf : (linesOf ns).find? (fun x => decide ((x.u : Int) = u) && decide ((x.l : Int) = w)) with
  | none => simp
  | some x =>
    have := line_parts (List.mem_of_find?_eq_some hf)
    show -1 ≤ x.n ∧ x.n ≤ 200000
    omega

set_option maxHeartbeats 1000000 in
theorem lineBetween (l : List Ln) (v : Value) (u lo : Int) (w : World) (hs : Sees w 3 v l.length (l.flatMap encLn)) :
    Calls Try.prog 26 #[v, .int .i64 u, .int .i64 lo] w fun e w' => e = .returned (.int .i64 (between l u lo)) ∧ w = w' := by
  obtain ⟨n, hn⟩ : ∃ n, n = l.length := ⟨_, rfl⟩
  have HN := Lib.hid hn
  rw [← hn] at hs
  clear hn
  rcases hs.2 with ⟨rfl, a, c, rfl⟩ | ⟨b, o, c, rfl, hnc, hcm, hb, hcell⟩
  · have HE := Lib.hid (List.eq_nil_of_length_eq_zero HN.out.symm)
    clear hs
    go_enter Try.func26, Try.ntmps26
    go_wp2
    go_loopw [7] (fun i wr => i = .int .i64 0 ∧ wr = w) (fun _ _ => 0)
    case atStart => exact ⟨rfl, rfl⟩
    case round =>
      obtain ⟨rfl, rfl⟩ := hrel
      go_wp2
      go_ret
      exact ⟨ret_int (by rw [HE.out]; rfl), rfl⟩
  · have HC := Lib.hid hcell
    unfold maxLen at hcm
    clear hs hcell
    go_enter Try.func26, Try.ntmps26
    go_wp2
    go_loopw [7] (fun i wr => ∃ k : Nat, k ≤ n ∧ i = .int .i64 k ∧ between l u lo = between (l.drop k) u lo ∧ wr = w) (fun i _ => n - (intOf i).toNat)
    case atStart => exact ⟨0, by omega, rfl, by rw [List.drop_zero], rfl⟩
    case round =>
      obtain ⟨k, hk, rfl, hbt, rfl⟩ := hrel
      have HB := Lib.hid hbt
      clear hbt
      by_cases hlt : k < n
      · have hkl : k < l.length := by have := HN.out; omega
        obtain ⟨u0, u1, u2⟩ := line_cells (xs := l) (b := b) (o := o) (w := wr) (fun j hj => HC.out j (by have := HN.out; omega)) k hkl
        have hd : l.drop k = l[k] :: l.drop (k + 1) := List.drop_eq_getElem_cons hkl
        rw [hd] at HB
        clear hd
        generalize l[k] = x at *
        by_cases h1 : (x.u : Int) = u
        · have h1' : ((x.u : Int) == u) = true := by simpa using h1
          by_cases h2 : (x.l : Int) = lo
          · have HR := Lib.hid (HB.out.trans (between_yes' h1 h2))
            have h2' : ((x.l : Int) == lo) = true := by simpa using h2
            clear h1 h2
            go_wp2
            go_ret
            exact ⟨ret_int HR.out.symm, rfl⟩
          · have HR := Lib.hid (HB.out.trans (between_no2 h2))
            have h2' : ((x.l : Int) == lo) = false := by simpa using h2
            clear h1 h2
            go_wp2
            go_roundw
            case rel => exact ⟨k + 1, by omega, by go_num, HR.out, trivial⟩
            case measure => simp [intOf]; omega
        · have HR := Lib.hid (HB.out.trans (between_no1 h1))
          have h1' : ((x.u : Int) == u) = false := by simpa using h1
          clear h1
          go_wp2
          go_roundw
          case rel => exact ⟨k + 1, by omega, by go_num, HR.out, trivial⟩
          case measure => simp [intOf]; omega
      · have HE := Lib.hid (show l.drop k = [] from List.drop_eq_nil_of_le (by have := HN.out; omega))
        go_wp2
        go_ret
        exact ⟨ret_int (by rw [HB.out, HE.out]; rfl), rfl⟩

theorem one_encN (l : List Nd) : ∀ u ∈ l.flatMap encN, u.oneCell' = true := by
  intro u hu
  obtain ⟨x, _, hx⟩ := List.mem_flatMap.1 hu
  simp [encN] at hx
  rcases hx with rfl | rfl | rfl <;> rfl

/-- the cells of a whole slice, as append reads them -/
theorem all_cells {w W : World} {b o n : Nat} {cs : List Value} (hcell : ∀ j, j < n → w.cell? ⟨b, o + j, none⟩ = cs[j]?) (hl : cs.length = n) (hW : ∀ j, W.cell? ⟨b, j, none⟩ = w.cell? ⟨b, j, none⟩) : ∀ j u, cs[j]? = some u → W.cell? ((⟨b, o, none⟩ : Addr).add j) = some u := by
  intro j u hu
  have e : (⟨b, o, none⟩ : Addr).add j = ⟨b, o + j, none⟩ := Go.WideShapes.add_plain _ _ _
  have hlt := (List.getElem?_eq_some_iff.1 hu).1
  rw [e, hW, hcell _ (by omega), hu]

theorem flip_step (ns : List Nd) (m : Nat) (hm : m < ns.length) : ((ns.take m).map flipN ++ ns.drop m).set m (flipN ns[m]) = (ns.take (m + 1)).map flipN ++ ns.drop (m + 1) := by
  rw [List.drop_eq_getElem_cons hm, List.take_succ_eq_append_getElem hm, List.map_append]
  have hl : ((ns.take m).map flipN).length = m := by simp; omega
  rw [List.set_append_right _ _ (by omega), hl, Nat.sub_self, List.set_cons_zero, List.append_assoc]
  rfl

set_option maxHeartbeats 2000000 in
theorem flipped (ns : List Nd) (v : Value) (w : World) (hs : Sees w 3 v ns.length (ns.flatMap encN)) (h1 : 1 ≤ ns.length) (h2 : ns.length ≤ 1000) :
    Calls Try.prog 21 #[v] w (GivesRow 32 3 (ns.map flipN).length ((ns.map flipN).flatMap encN) w) := by
  obtain ⟨i0, hi, hz0, hz1, hz2⟩ := info_parts infoNode
  have HI := Lib.hid hi
  have HZ0 := Lib.hid hz0
  have HZ1 := Lib.hid hz1
  have HZ2 := Lib.hid hz2
  clear hi hz0 hz1 hz2
  obtain ⟨n, hn⟩ : ∃ n, n = ns.length := ⟨_, rfl⟩
  have HN := Lib.hid hn
  rw [List.length_map]
  rw [← hn] at hs h1 h2 ⊢
  clear hn
  rcases hs.2 with ⟨h0, _⟩ | ⟨b, o, c, rfl, hnc, hcm, hb, hcell⟩
  · omega
  · unfold maxLen at hcm
    have HE0 := Lib.hid (own_empty w w.heap.size (Nat.le_refl _))
    have HT1 := Lib.hid (all_cells (W := w.alloc (.cells #[] 32)) hcell hs.1 (fun j => World.cell?_alloc_lt _ _ _ hb))
    have HTL := Lib.hid hs.1
    have HT2 := Lib.hid (one_encN ns)
    clear hs hcell
    go_enter Try.func21, Try.ntmps21
    go_wp2_with (at_builtin; refine wpList_append_lies _ rfl _ _ 25 rfl w.heap.size 32 i0 (.agg #[.int .i64 0, .int .i64 0, .bool false]) 3 24 Try.underlying25 HI.out HZ0.out HZ1.out HZ2.out rfl (by decide) _ _ _ rfl HE0.out ⟨b, o, none⟩ n c (ns.flatMap encN) rfl HTL.out HT1.out HT2.out (by omega) (by unfold maxLen; omega) (by omega) (by simp) (w.heap.size + 1) (by simp) ?_)
    intro g cap w1 O1 g1 _ hg1
    have B1 : Below w.heap.size w w1 := own_step (Below.refl _ _) (Nat.le_refl _) g1 (fun k hk => by simp [Value.ownBlock] at hk; omega)
    (try simp only [Nat.zero_add, List.nil_append] at O1)
    have hgb := (O1.lt g rfl).1
    have HO1 := Lib.hid O1
    clear g1 HE0 HT1 HTL HT2 O1
    go_wp2
    go_loopw [4] (fun i wr => ∃ m : Nat, m ≤ n ∧ i = .int .i64 m ∧ wr.ownsRow w.heap.size 32 3 (.slice (some ⟨g, 0, none⟩) n cap) n (((ns.take m).map flipN ++ ns.drop m).flatMap encN) ∧ Below w.heap.size w wr) (fun i _ => n - (intOf i).toNat)
    case atStart => exact ⟨0, by omega, rfl, by simpa using HO1.out, B1⟩
    case round =>
      obtain ⟨m, hm, rfl, hown, hB⟩ := hrel
      by_cases hlt : m < n
      · have hml : m < ns.length := by have := HN.out; omega
        have hL : ((ns.take m).map flipN ++ ns.drop m).length = n := by simp; have := HN.out; omega
        have hget : ((ns.take m).map flipN ++ ns.drop m)[m]'(by omega) = ns[m] := by
          rw [List.getElem_append_right (by simp; omega)]
          simp [Nat.min_eq_left (Nat.le_of_lt hml)]
        have x2 : wr.cell? ⟨g, m * 3 + 2, none⟩ = some (.bool ns[m].o) := (hown.cellAt (m * 3 + 2) (by omega)).trans ((flat_get encN 3 encN_len _ m 2 (by omega) (by omega)).trans (by rw [hget]; rfl))
        have hF := fun j => hown.frozenAt j
        obtain ⟨o1, g1⟩ := hown.stored (m * 3 + 2) (.bool (!ns[m].o))
        rw [flat_set encN 3 encN_len _ m 2 (by omega) (by omega) (.bool (!ns[m].o)) (flipN ns[m]) (by rw [hget]; rfl), flip_step ns m hml] at o1
        have OO := Lib.hid o1
        have BB := Lib.hid (below_only hB g1 hB.size (fun k hk => by injection hk with hk; omega))
        clear o1 g1 hget hL
        generalize ns[m] = x at *
        obtain ⟨xe, xj, xo⟩ := x
        simp only at x2 OO BB
        go_wp2
        go_roundw
        case rel => exact ⟨m + 1, by omega, by go_num, OO.out, BB.out⟩
        case measure => simp [intOf]; omega
      · obtain rfl : m = n := by omega
        have e1 : ns.take m = ns := List.take_of_length_le (by have := HN.out; omega)
        have e2 : ns.drop m = [] := List.drop_eq_nil_of_le (by have := HN.out; omega)
        rw [e1, e2, List.append_nil] at hown
        clear e1 e2
        go_wp2
        go_ret
        exact ⟨_, rfl, hown, hB⟩

end Go.Proofs.Ytgkgdnocleajcaa.LinesHelp
