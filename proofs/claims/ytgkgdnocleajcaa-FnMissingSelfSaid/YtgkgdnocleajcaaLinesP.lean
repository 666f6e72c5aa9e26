/-
  Contract of the program's SchemeLines.
-/
import Derived.Test.YtgkgdnocleajcaaLinesI
namespace Go.Proofs.Ytgkgdnocleajcaa.LinesP
open Go.RowKit Go.Sort Go.Shelf Go.Lib Go.Proofs.Ytgkgdnocleajcaa.Spin Go.Proofs.Ytgkgdnocleajcaa.Row Go.Proofs.Ytgkgdnocleajcaa.Plain Go.Proofs.Ytgkgdnocleajcaa.Later Go.Proofs.Ytgkgdnocleajcaa.Node Go.Proofs.Ytgkgdnocleajcaa.Line Go.Proofs.Ytgkgdnocleajcaa.LinesFn Go.Proofs.Ytgkgdnocleajcaa.LinesI
set_option linter.unusedVariables false
set_option linter.unusedSimpArgs false

/-- the row is sorted in place -/
def SortedRow (base : Nat) (l : List Ln) (v : Value) (w : World) (e : Ending) (w' : World) : Prop :=
  e = .returned (.tuple #[]) ∧ w'.ownsRow base 39 3 v l.length ((sorted l).flatMap encLn) ∧ w.grownBy w' v.ownBlock

theorem sortLines (base : Nat) (l : List Ln) (v : Value) (w : World) (h : w.ownsRow base 39 3 v l.length (l.flatMap encLn)) (hl : l.length ≤ 1000) :
    Calls Try.prog 43 #[v, .func (.func 44) #[] #[]] w (SortedRow base l v w) := by
  have h0 := h
  rcases h.2 with ⟨rfl, hn⟩ | ⟨g, cap, cur, rfl, hb, hg, hn, hm, hs, ht⟩
  · obtain rfl := List.eq_nil_of_length_eq_zero hn
    refine (AnyF.slices_SortFunc_none Shelf.laysSort none 0 _ w).mono ?_
    rintro e w' ⟨rfl, rfl⟩
    exact ⟨rfl, by simpa [sorted] using h0, only_refl _ _⟩
  · have eg : ∀ args w, (callFunc 44 args).run Try.prog w = .ok (.enter 44 args) w := enters_of Try.func44 (by kernel_rfl) rfl
    have hcon := AnyQ.slices_SortFunc_total Shelf.laysSort 3 Try.isAgg39 Try.sizeOf39 encLn encLn_len (fun x v hv => by simp [encLn] at hv; rcases hv with rfl | rfl | rfl <;> rfl) cmpLn lt_swo 44 #[] g 0 cap l.toArray w eg (fun _ _ _ _ x y => lineCmp x y _) (holdsK_own encLn 3 encLn_len (by omega) l h0) (lt_of_block hg) (by simp; omega) cmp_total
    have hcon' : Calls Try.prog 43 #[.slice (some ⟨g, 0, none⟩) l.length cap, .func (.func 44) #[] #[]] w fun e w' => e = .returned (.tuple #[]) ∧ ∃ n os, w' = sortWorldK encLn 3 w g 0 n (l.mergeSort fun x y => !(ltOf cmpLn) y x).toArray os := hcon
    refine hcon'.mono ?_
    rintro e w' ⟨rfl, m, os, rfl⟩
    rw [sort_le]
    obtain ⟨h1, h2⟩ := own_sorted encLn 3 encLn_len (by omega) (m := m) (os := os) (sorted l) (sorted_len l) h0
    exact ⟨rfl, h1, h2⟩

theorem steps_is {a b : Int} {r : Bool} (w : World) (ha : 0 ≤ a ∧ a ≤ 24) (hb : 0 ≤ b ∧ b ≤ 24) (h : near2 a b = r) : Calls Try.prog 42 #[.int .i64 a, .int .i64 b, .int .i64 2] w fun e w' => e = .returned (.bool r) ∧ w = w' := h ▸ stepsBy a b w ha hb

set_option maxHeartbeats 4000000 in
theorem iSchemeLines (ns : List Nd) (v : Value) (w : World) (hs : Sees w 3 v ns.length (ns.flatMap encN)) :
    Calls Try.prog 23 #[v] w (GivesRow 39 3 (linesOf ns).length ((linesOf ns).flatMap encLn) w) := by
  obtain ⟨i0, hi, hz0, hz1, hz2⟩ := info_parts infoLine
  have HI := Lib.hid hi
  have HZ0 := Lib.hid hz0
  have HZ1 := Lib.hid hz1
  have HZ2 := Lib.hid hz2
  clear hi hz0 hz1 hz2
  have HV := Lib.hid (iSchemeValid ns v w hs)
  cases hok : schemeOk ns
  · have HL := Lib.hid (linesOf_no hok)
    rw [hok] at HV
    clear hs hok
    go_enter Try.func23, Try.ntmps23
    go_wp2_with fail
    refine HV.out.mono ?_
    rintro e w1 ⟨rfl, b1⟩
    go_wp2
    go_ret
    exact ⟨_, rfl, by rw [HL.out]; exact World.ownsRow_nil _ _ _ _, b1⟩
  · have HL := Lib.hid (linesOf_yes hok)
    obtain ⟨p1, p2, _, _⟩ := scheme_parts hok
    have HND := Lib.hid (fun i (hi : i < ns.length) => nd_bounds hok hi)
    rw [hok] at HV
    obtain ⟨n, hn⟩ : ∃ n, n = ns.length := ⟨_, rfl⟩
    have HN := Lib.hid hn
    have HRL := Lib.hid (raw_len hok)
    rw [← hn] at hs p1 p2
    rcases hs.2 with ⟨h0, _⟩ | ⟨b, o, c, rfl, hnc, hcm, hb, hcell⟩
    · omega
    · unfold maxLen at hcm
      have HC := Lib.hid (fun (k : Nat) (hk : k < n) => node_cells (w := w) (ns := ns) (b := b) (o := o) (fun j hj => hcell j (by omega)) k (by omega))
      clear hs hcell hok hn
      go_enter Try.func23, Try.ntmps23
      go_wp2_with fail
      refine HV.out.mono ?_
      rintro e w1 ⟨rfl, b1⟩
      clear HV
      have hz1 := b1.size
      go_wp2
      go_loopw [3, 13] (fun u i wr => ∃ (k : Nat) (v0 : Value), v0 = u ∧ k ≤ n ∧ i = .int .i64 k ∧ wr.ownsRow w.heap.size 39 3 u (rawTo ns k).length ((rawTo ns k).flatMap encLn) ∧ Below w.heap.size w wr) (fun _ i _ => n - (intOf i).toNat)
      case atStart => exact ⟨0, _, rfl, by omega, rfl, World.ownsRow_nil _ _ _ _, b1⟩
      case round =>
        obtain ⟨k, v0, rfl, hk, rfl, hown, hB⟩ := hrel
        have hsz := hB.size
        obtain ⟨wo, rfl⟩ : ∃ wo : World, wo = wr := ⟨_, rfl⟩
        by_cases hlt : k < n
        · obtain ⟨c0', c1', c2'⟩ := HC.out k hlt
          have c0 := (hB.cell (p := ⟨b, o + k * 3, none⟩) hb).trans c0'
          have c1 := (hB.cell (p := ⟨b, o + k * 3 + 1, none⟩) hb).trans c1'
          have c2 := (hB.cell (p := ⟨b, o + k * 3 + 2, none⟩) hb).trans c2'
          clear c0' c1' c2'
          have hkl : k < ns.length := by have := HN.out; omega
          have hbx := HND.out k hkl
          go_wp2_with fail
          have hx0 : (wo.alloc (.cells #[.int .i64 (nth ns k).e, .int .i64 (nth ns k).j, .bool (nth ns k).o] 32)).cell? ⟨wo.heap.size, 0, none⟩ = some (.int .i64 (nth ns k).e) := by simp
          have hx1 : (wo.alloc (.cells #[.int .i64 (nth ns k).e, .int .i64 (nth ns k).j, .bool (nth ns k).o] 32)).cell? ⟨wo.heap.size, 1, none⟩ = some (.int .i64 (nth ns k).j) := by simp
          have hx2 : (wo.alloc (.cells #[.int .i64 (nth ns k).e, .int .i64 (nth ns k).j, .bool (nth ns k).o] 32)).cell? ⟨wo.heap.size, 2, none⟩ = some (.bool (nth ns k).o) := by simp
          have HX := Lib.hid (And.intro hx0 (And.intro hx1 hx2))
          have HOW := Lib.hid (hown.alloc (.cells #[.int .i64 (nth ns k).e, .int .i64 (nth ns k).j, .bool (nth ns k).o] 32))
          have HBA := Lib.hid (hB.alloc hB.size (.cells #[.int .i64 (nth ns k).e, .int .i64 (nth ns k).j, .bool (nth ns k).o] 32))
          have HVB := Lib.hid (fun g (h : v0.ownBlock = some g) => hown.lt g h)
          have hsA : (wo.alloc (.cells #[.int .i64 (nth ns k).e, .int .i64 (nth ns k).j, .bool (nth ns k).o] 32)).heap.size = wo.heap.size + 1 := by simp
          generalize wo.alloc (.cells #[.int .i64 (nth ns k).e, .int .i64 (nth ns k).j, .bool (nth ns k).o] 32) = wa at *
          have HSA := Lib.hid hsA
          have hla : wo.heap.size < wa.heap.size := by omega
          clear c0 c1 c2 hx0 hx1 hx2 hsA hown
          go_loopw [3, 22] (fun u i wr => ∃ (m : Nat) (v1 : Value), v1 = u ∧ m ≤ k ∧ i = .int .i64 m ∧ wr.ownsRow w.heap.size 39 3 v1 (rawTo ns k ++ rowTo ns k m).length ((rawTo ns k ++ rowTo ns k m).flatMap encLn) ∧ wa.grownBy wr v0.ownBlock ∧ (∀ g, v1.ownBlock = some g → some g = v0.ownBlock ∨ wa.heap.size ≤ g)) (fun _ i _ => k - (intOf i).toNat)
          case atStart => exact ⟨0, v0, rfl, by omega, rfl, by rw [rowTo_zero, List.append_nil]; exact HOW.out, only_refl _ _, fun g h => .inl h.symm⟩
          case round =>
            obtain ⟨m, v1, rfl, hm, rfl, hown, hG, hvo⟩ := hrel
            have HVO := Lib.hid hvo
            have hsw := hG.size
            clear hvo
            have hBb : some b ≠ v0.ownBlock := fun e => by have := (HVB.out b e.symm).1; omega
            have hBx : some wo.heap.size ≠ v0.ownBlock := fun e => by have := (HVB.out _ e.symm).2; omega
            by_cases hmk : m < k
            · obtain ⟨d0', d1', d2'⟩ := HC.out m (by omega)
              have d0 := ((only_cell hG (by omega) hBb _).trans (HBA.out.cell (p := ⟨b, o + m * 3, none⟩) hb)).trans d0'
              have d1 := ((only_cell hG (by omega) hBb _).trans (HBA.out.cell (p := ⟨b, o + m * 3 + 1, none⟩) hb)).trans d1'
              have d2 := ((only_cell hG (by omega) hBb _).trans (HBA.out.cell (p := ⟨b, o + m * 3 + 2, none⟩) hb)).trans d2'
              have x0 := (only_cell hG hla hBx 0).trans HX.out.1
              have x1 := (only_cell hG hla hBx 1).trans HX.out.2.1
              have x2 := (only_cell hG hla hBx 2).trans HX.out.2.2
              have hby := HND.out m (by have := HN.out; omega)
              have hyes := fun (h : allow (nth ns k) (nth ns m) = true) => rowTo_yes (ns := ns) h
              have hno := fun (h : allow (nth ns k) (nth ns m) = false) => rowTo_no (ns := ns) h
              have hat : lineAt ns k m = ⟨k, m, (nth ns k).e - (nth ns m).e⟩ := rfl
              rw [hat] at hyes
              have hrl : (rawTo ns k ++ rowTo ns k m).length ≤ 300 := by
                have h1 := rawTo_len ns k 12 (by omega)
                have h2 := rowTo_len ns k m
                rw [List.length_append]
                omega
              have HYES := Lib.hid hyes
              have HNO := Lib.hid hno
              have hwx : wo.heap.size < wr.heap.size := by omega
              have hwb : b < wr.heap.size := by omega
              clear d0' d1' d2' hBb hBx hat hyes hno
              generalize nth ns k = X at *
              generalize nth ns m = Y at *
              obtain ⟨xe, xj, xo⟩ := X
              obtain ⟨ye, yj, yo⟩ := Y
              simp only at hbx hby x0 x1 x2 d0 d1 d2 HYES HNO
              obtain ⟨⟨xe0, xe1⟩, xj01⟩ := hbx
              obtain ⟨⟨ye0, ye1⟩, yj01⟩ := hby
              by_cases ho : xo = yo
              · have hr := HNO.out (by simp [allow, ho])
                have HR := Lib.hid hr
                subst ho
                clear hr
                go_wp2
                go_roundw
                case rel => exact ⟨m + 1, v1, rfl, by omega, by go_num, by rw [HR.out]; exact hown.alloc _, only_alloc hG _, HVO.out⟩
                case measure => simp [intOf]; omega
              · obtain rfl : yo = !xo := by cases xo <;> cases yo <;> simp_all
                clear ho
                cases hnr : near2 xj yj
                · have HR := Lib.hid (HNO.out (by simp [allow, hnr]))
                  go_wp2_with fail
                  (with_reducible refine (steps_is _ xj01 yj01 hnr).mono ?_)
                  rintro e w' ⟨rfl, rfl⟩
                  clear hnr
                  go_wp2
                  go_roundw
                  case rel => exact ⟨m + 1, v1, rfl, by omega, by go_num, by rw [HR.out]; exact hown.alloc _, only_alloc hG _, HVO.out⟩
                  case measure => simp [intOf]; omega
                · have HR := Lib.hid (HYES.out (by simp [allow, hnr]))
                  go_wp2_with fail
                  (with_reducible refine (steps_is _ xj01 yj01 hnr).mono ?_)
                  rintro e w' ⟨rfl, rfl⟩
                  clear hnr
                  go_wp2_with (at_builtin; refine wpList_append_lies _ rfl _ _ 35 rfl w.heap.size 39 i0 (.agg #[.int .i64 0, .int .i64 0, .int .i64 0]) 3 24 Try.underlying35 HI.out HZ0.out HZ1.out HZ2.out rfl (by decide) _ _ _ rfl ((hown.alloc _).alloc _) ⟨wr.heap.size + 1, 0, none⟩ 1 1 [.int .i64 (k : Int), .int .i64 (m : Int), .int .i64 (xe - ye)] rfl rfl (by have h := cells_new (wr.alloc (.cells #[.int .i64 ye, .int .i64 yj, .bool !xo] 32)) [.int .i64 (k : Int), .int .i64 (m : Int), .int .i64 (xe - ye)] 39; simpa using h) (by simp [Value.oneCell']) (by omega) (by unfold maxLen; omega) (by omega) (by simp; omega) (wr.heap.size + 1 + 1) (by simp) ?_)
                  intro gg cap w2 hown' hgrow hat hltg
                  have G2 := only_trans (only_alloc (only_alloc hG _) _) hgrow HVO.out
                  have HV2 := Lib.hid (only_at (n := (rawTo ns k).length + (rowTo ns k m).length + 1) (c := cap) hG HVO.out hat (by omega))
                  have O2 : w2.ownsRow w.heap.size 39 3 (.slice (some ⟨gg, 0, none⟩) ((rawTo ns k).length + (rowTo ns k m).length + 1) cap) (rawTo ns k ++ (rowTo ns k m ++ [(⟨k, m, xe - ye⟩ : Ln)])).length ((rawTo ns k ++ (rowTo ns k m ++ [(⟨k, m, xe - ye⟩ : Ln)])).flatMap encLn) := by
                    have h := hown'
                    simpa [List.flatMap_append, encLn, Nat.add_assoc] using h
                  clear hown' hgrow hown hG HVO hat
                  go_wp2
                  go_roundw
                  case rel => exact ⟨m + 1, _, rfl, by omega, by go_num, by rw [HR.out]; exact O2, G2, HV2.out⟩
                  case measure => simp [intOf]; omega
            · obtain rfl : m = k := by omega
              have B2 := below_only HBA.out hG (by omega) (fun g h => (HVB.out g h).1)
              rw [← rawTo_succ] at hown
              go_wp2
              go_roundw
              case rel => exact ⟨m + 1, v1, rfl, by omega, by go_num, hown, B2⟩
              case measure => simp [intOf]; omega
        · obtain rfl : k = n := by omega
          have e : rawTo ns k = raw ns := by unfold raw; rw [← HN.out]
          rw [e] at hown
          have hrl := HRL.out
          have HLT := Lib.hid (fun g (h : v0.ownBlock = some g) => (hown.lt g h).1)
          have HSO := Lib.hid (sortLines w.heap.size (raw ns) v0 wo hown (by omega))
          clear e hown
          go_wp2_with fail
          refine HSO.out.mono ?_
          rintro e w2 ⟨rfl, O2, G2⟩
          have B2 := below_only hB G2 hsz HLT.out
          clear HSO
          go_wp2
          go_ret
          exact ⟨_, rfl, by rw [HL.out, sorted_len]; exact O2, B2⟩

end Go.Proofs.Ytgkgdnocleajcaa.LinesP
