/-
  Contract of SchemeReach, the program's: a forest with path halving.
-/
import Derived.Test.YthdmpiioecogpaaReach
namespace Go.Proofs.Ythdmpiioecogpaa.ReachI
open Go.RowKit Go.Proofs.Ythdmpiioecogpaa.Spin Go.Proofs.Ythdmpiioecogpaa.Row Go.Proofs.Ythdmpiioecogpaa.Plain Go.Proofs.Ythdmpiioecogpaa.Later Go.Proofs.Ythdmpiioecogpaa.Node Go.Proofs.Ythdmpiioecogpaa.Line Go.Proofs.Ythdmpiioecogpaa.LinesFn Go.Proofs.Ythdmpiioecogpaa.LinesS Go.Proofs.Ythdmpiioecogpaa.LinesP Go.Proofs.Ythdmpiioecogpaa.MatchBest Go.Proofs.Ythdmpiioecogpaa.Tab Go.Proofs.Ythdmpiioecogpaa.SchemeLaws Go.Proofs.Ythdmpiioecogpaa.Reach
set_option linter.unusedVariables false
set_option linter.unusedSimpArgs false

def encF (f : Nat → Nat) : Nat → Value := fun i => .int .i64 (f i : Nat)
def IsForest (W : World) (base g n : Nat) (f : Nat → Nat) : Prop := W.ownsRow base 3 1 (.slice (some ⟨g, 0, none⟩) n n) n (tab n (encF f))
theorem encF_upd (n : Nat) (f : Nat → Nat) (i v : Nat) : tab n (updV (encF f) i (.int .i64 (v : Int))) = tab n (encF (upd f i v)) := tab_congr (fun j _ => by unfold updV encF upd; split <;> rfl)
theorem own_kept {w w' : World} {base : Nat} {e : TypeId} {k : Nat} {g n c : Nat} {m : Nat} {cs : List Value} {row : Option Nat} (h : w.ownsRow base e k (.slice (some ⟨g, 0, none⟩) n c) m cs) (hg : w.grownBy w' row) (hne : row ≠ some g) : w'.ownsRow base e k (.slice (some ⟨g, 0, none⟩) n c) m cs := h.kept hg (.inr (fun e => hne e.symm))

set_option maxRecDepth 100000 in
set_option maxHeartbeats 1000000 in
theorem find (n : Nat) (hn : n ≤ 12) (f c : Nat → Nat) (hf : Forest n f c) (i : Nat) (hi : i < n) (base g : Nat) (W : World) (hO : IsForest W base g n f) :
    Calls Try.prog 47 #[.slice (some ⟨g, 0, none⟩) n n, .int .i64 (i : Int)] W fun e w' => e = .returned (.int .i64 (c i : Nat)) ∧ ∃ f', Hid (Forest n f' c) ∧ IsForest w' base g n f' ∧ W.grownBy w' (some g) := by
  have HF := Lib.hid hf
  clear hf
  go_enter Try.func47, Try.ntmps47
  go_wp2
  go_loopw [1] (fun u wr => ∃ (x : Nat) (f' : Nat → Nat), x < n ∧ u = .int .i64 (x : Int) ∧ Hid (c x = c i) ∧ Hid (Forest n f' c) ∧ Hid (IsForest wr base g n f') ∧ W.grownBy wr (some g)) (fun u _ => (intOf u).toNat)
  case atStart => exact ⟨i, f, hi, rfl, Lib.hid rfl, HF, Lib.hid hO, only_refl _ _⟩
  case round =>
    obtain ⟨x, f1, hx, rfl, hcx, hF1, hO1, hG⟩ := hrel
    have hO2 : wr.ownsRow base 3 1 (.slice (some ⟨g, 0, none⟩) n n) n (tab n (encF f1)) := hO1.out
    have x0 : wr.cell? ⟨g, x, none⟩ = some (.int .i64 (f1 x : Nat)) := (hO2.cellAt x (by omega)).trans (tab_get _ hx)
    have hfx := (hF1.out x hx).1
    have hx1 : (x : Int) < (n : Int) := by omega
    by_cases hr : f1 x = x
    · have HE := Lib.hid (show x = c i from (forest_root hF1.out hx hr).symm.trans hcx.out)
      rw [hr] at x0
      clear hr hO2 hfx
      go_wp2
      go_ret
      exact ⟨ret_int (by rw [← HE.out]), f1, hF1, hO1.out, hG⟩
    · have hne : ((f1 x : Int) == (x : Int)) = false := by rw [beq_eq_false_iff_ne]; omega
      have x1 : wr.cell? ⟨g, f1 x, none⟩ = some (.int .i64 (f1 (f1 x) : Nat)) := (hO2.cellAt (f1 x) (by omega)).trans (tab_get _ (by omega))
      have hff := (hF1.out (f1 x) (by omega)).1
      have hF := fun j => hO2.frozenAt j
      obtain ⟨o5, g5⟩ := hO2.stored x (.int .i64 (f1 (f1 x) : Nat))
      rw [tab_set, encF_upd n f1] at o5
      have O5 := Lib.hid o5
      have G5 := Lib.hid (only_trans hG g5 (fun _ h => .inl h.symm))
      have y5 : (wr.setCell ⟨g, x, none⟩ (.int .i64 (f1 (f1 x) : Nat))).cell? ⟨g, x, none⟩ = some (.int .i64 (f1 (f1 x) : Nat)) := (o5.cellAt x (by omega)).trans ((tab_get _ hx).trans (by simp [encF, upd]))
      have HFH := Lib.hid (forest_half hF1.out hx)
      have HC2 := Lib.hid (show c (f1 (f1 x)) = c i from ((hF1.out (f1 x) (by omega)).2.1.trans (hF1.out x hx).2.1).trans hcx.out)
      have hlt : f1 (f1 x) < x := by omega
      have hb1 : (f1 x : Int) < (n : Int) := by omega
      clear o5 g5 hO1 hcx hF1
      generalize f1 (f1 x) = z at *
      generalize f1 x = y at *
      go_wp2
      go_roundw
      case rel => exact ⟨z, _, by omega, rfl, HC2, HFH, O5, G5.out⟩
      case measure => simp [intOf]; omega

set_option maxRecDepth 100000 in
set_option maxHeartbeats 1000000 in
theorem join (n : Nat) (hn : n ≤ 12) (f c : Nat → Nat) (hf : Forest n f c) (u l : Nat) (hu : u < n) (hl : l < n) (base g : Nat) (W : World) (hO : IsForest W base g n f) :
    Calls Try.prog 46 #[.slice (some ⟨g, 0, none⟩) n n, .int .i64 (u : Int), .int .i64 (l : Int)] W fun e w' => (∃ v, e = .returned v) ∧ ∃ f', Hid (Forest n f' (joinC c u l)) ∧ IsForest w' base g n f' ∧ W.grownBy w' (some g) := by
  have HC1 := Lib.hid (find n hn f c hf u hu base g W hO)
  have bu := (hf u hu).2.2.2
  have bl := (hf l hl).2.2.2
  clear hf hO
  go_enter Try.func46, Try.ntmps46
  go_wp2_with fail
  refine HC1.out.mono ?_
  rintro e w1 ⟨rfl, f1, hF1, hO1, g1⟩
  have HC2 := Lib.hid (find n hn f1 c hF1.out l hl base g w1 hO1)
  clear HC1 hF1 hO1
  go_wp2_with fail
  refine HC2.out.mono ?_
  rintro e w2 ⟨rfl, f2, hF2, hO2, g2⟩
  have G2 := only_trans g1 g2 (fun _ h => .inl h.symm)
  have HJ := Lib.hid (forest_join hF2.out hu hl)
  have hO3 : w2.ownsRow base 3 1 (.slice (some ⟨g, 0, none⟩) n n) n (tab n (encF f2)) := hO2
  have hF := fun j => hO3.frozenAt j
  clear HC2 hF2 hO2 g1 g2
  generalize c u = cu at *
  generalize c l = cl at *
  rcases Nat.le_total cu cl with h | h
  · rw [Nat.max_eq_right h, Nat.min_eq_left h] at HJ
    have x0 : w2.cell? ⟨g, cl, none⟩ = some (.int .i64 (f2 cl : Nat)) := (hO3.cellAt cl (by omega)).trans (tab_get _ (by omega))
    obtain ⟨o5, g5⟩ := hO3.stored cl (.int .i64 (cu : Int))
    rw [tab_set, encF_upd n f2] at o5
    have O5 := Lib.hid o5
    have G5 := Lib.hid (only_trans G2 g5 (fun _ h => .inl h.symm))
    have h1 : (cu : Int) ≤ (cl : Int) := by omega
    have h2 : (cl : Int) < (n : Int) := by omega
    have hm1 : max (cu : Int) (cl : Int) = (cl : Int) := by omega
    have hm2 : min (cu : Int) (cl : Int) = (cu : Int) := by omega
    clear o5 g5
    go_wp2
    all_goals go_end0
    all_goals exact ⟨⟨_, rfl⟩, _, HJ, O5.out, G5.out⟩
  · rw [Nat.max_eq_left h, Nat.min_eq_right h] at HJ
    have x0 : w2.cell? ⟨g, cu, none⟩ = some (.int .i64 (f2 cu : Nat)) := (hO3.cellAt cu (by omega)).trans (tab_get _ (by omega))
    obtain ⟨o5, g5⟩ := hO3.stored cu (.int .i64 (cl : Int))
    rw [tab_set, encF_upd n f2] at o5
    have O5 := Lib.hid o5
    have G5 := Lib.hid (only_trans G2 g5 (fun _ h => .inl h.symm))
    have h1 : (cl : Int) ≤ (cu : Int) := by omega
    have h2 : (cu : Int) < (n : Int) := by omega
    have hm1 : max (cu : Int) (cl : Int) = (cu : Int) := by omega
    have hm2 : min (cu : Int) (cl : Int) = (cl : Int) := by omega
    clear o5 g5
    go_wp2
    all_goals go_end0
    all_goals exact ⟨⟨_, rfl⟩, _, HJ, O5.out, G5.out⟩

set_option maxRecDepth 100000 in
set_option maxHeartbeats 1000000 in
theorem newForest (n : Nat) (hn : n ≤ 12) (w : World) :
    Calls Try.prog 45 #[.int .i64 (n : Int)] w fun e w' => e = .returned (.slice (some ⟨w.heap.size, 0, none⟩) n n) ∧ IsForest w' w.heap.size w.heap.size n id ∧ Below w.heap.size w w' := by
  obtain ⟨j0, hi, hz0, hz1, hz2⟩ := info_parts infoInt
  have JI := Lib.hid hi
  have JZ0 := Lib.hid hz0
  have JZ1 := Lib.hid hz1
  have JZ2 := Lib.hid hz2
  clear hi hz0 hz1 hz2
  have hn2' : (n : Int) ≤ 12 := by omega
  go_enter Try.func45, Try.ntmps45
  go_wp2_with (at_make; refine wpList_make_full _ rfl _ _ 57 rfl w.heap.size 3 j0 (.int .i64 0) 1 Try.underlying57 JI.out JZ0.out JZ1.out .i64 .i64 _ _ n rfl rfl rfl rfl (by rw [JZ2.out]; omega) (by unfold maxLen; omega) (Nat.le_refl _) ?_; intro w2 hown2 hgrow2)
  have B2 : Below w.heap.size w w2 := (Below.refl w.heap.size w).grown hgrow2 (Nat.le_refl _) (fun j hj => by cases hj)
  rw [show (Value.int .i64 0).cells = #[Value.int .i64 0] from rfl, tab_made] at hown2
  obtain ⟨g, hg⟩ : ∃ g, g = w.heap.size := ⟨_, rfl⟩
  have HG := Lib.hid hg
  rw [← hg] at hown2 ⊢
  have hgl : w.heap.size ≤ g := by omega
  have O2 := Lib.hid hown2
  have HB2 := Lib.hid B2
  clear hgrow2 hg hown2 B2
  go_loopw [9] (fun i wr => ∃ m : Nat, m ≤ n ∧ i = .int .i64 m ∧ wr.ownsRow g 3 1 (.slice (some ⟨g, 0, none⟩) n n) n (tab n (encF (fun i => if i < m then i else 0))) ∧ Below w.heap.size w wr) (fun i _ => n - (intOf i).toNat)
  case atStart => exact ⟨0, by omega, rfl, O2.out, HB2.out⟩
  case round =>
    obtain ⟨m, hm, rfl, hown, hB⟩ := hrel
    by_cases hlt : m < n
    · have hF := fun j => hown.frozenAt j
      have x0 : wr.cell? ⟨g, m, none⟩ = some _ := (hown.cellAt m (by omega)).trans (tab_get _ hlt)
      obtain ⟨o5, g5⟩ := hown.stored m (.int .i64 (m : Int))
      rw [tab_set, encF_upd n] at o5
      have HT := Lib.hid (show tab n (encF (upd (fun i => if i < m then i else 0) m m)) = tab n (encF (fun i => if i < m + 1 then i else 0)) from tab_congr (fun i _ => by
        unfold encF upd
        by_cases e : i = m
        · subst e; simp
        · simp only [if_neg e]
          by_cases h : i < m
          · rw [if_pos h, if_pos (by omega)]
          · rw [if_neg h, if_neg (by omega)]))
      have O5 := Lib.hid o5
      have B5 := Lib.hid (below_only hB g5 hB.size (fun k hk => by injection hk with hk; omega))
      clear o5 g5
      simp only [encF, Nat.lt_irrefl, if_false] at x0
      go_wp2
      go_roundw
      case rel => exact ⟨m + 1, by omega, by go_num, by rw [← HT.out]; exact O5.out, B5.out⟩
      case measure => simp [intOf]; omega
    · obtain rfl : m = n := by omega
      have HT := Lib.hid (show tab m (encF (fun i => if i < m then i else 0)) = tab m (encF id) from tab_congr (fun i hi => by unfold encF; simp [hi]))
      have hge := HG.out
      subst hge
      go_wp2
      go_ret
      exact ⟨rfl, by unfold IsForest; rw [← HT.out]; exact hown, hB⟩

set_option maxRecDepth 100000 in
set_option maxHeartbeats 4000000 in
theorem iSchemeReach (ns : List Nd) (v : Value) (w : World) (hs : Sees w 3 v ns.length (ns.flatMap encN)) :
    Calls Try.prog 14 #[v] w (GivesRow 4 1 (reachOf ns).length ((reachOf ns).flatMap RowsBool.encB) w) := by
  have HV := Lib.hid (fun r (h : schemeOk ns = r) => valid_is h hs)
  have HSS := Lib.hid (fun W (h : Below w.heap.size w W) => hs.below h (Nat.le_refl _))
  obtain ⟨a0, c0, rfl⟩ : ∃ a c, v = .slice a ns.length c := by
    rcases hs.2 with ⟨h0, a, c, rfl⟩ | ⟨b, o, c, rfl, _⟩
    · exact ⟨a, c, by rw [h0]⟩
    · exact ⟨_, _, rfl⟩
  clear hs
  cases hok : schemeOk ns
  · have HE := Lib.hid (reach_no hok)
    have HC := Lib.hid (HV.out _ hok)
    clear hok HV
    generalize ns.length = n at *
    go_enter Try.func14, Try.ntmps14
    go_wp2_with fail
    refine HC.out.mono ?_
    rintro e w1 ⟨rfl, b1⟩
    clear HC
    go_wp2
    go_ret
    exact ⟨_, rfl, by rw [HE.out]; exact World.ownsRow_nil _ _ _ _, b1⟩
  · have HE := Lib.hid (reach_cells hok)
    have HC := Lib.hid (HV.out _ hok)
    have hn1 := (scheme_parts hok).1
    have hn2 := (scheme_parts hok).2.1
    have HU := Lib.hid (fun y (hy : y ∈ linesOf ns) => show y.u < ns.length ∧ y.l < ns.length by have := line_parts hy; omega)
    have HLN := Lib.hid (fun W (h : Below w.heap.size w W) => iSchemeLines ns _ W (HSS.out W h))
    have hl144 := linesOf_len ns
    have HRE := Lib.hid (show ∀ i, reach ns i = (foldC (linesOf ns) i == foldC (linesOf ns) 0) from fun _ => rfl)
    clear hok HV HSS
    generalize reachOf ns = R at *
    generalize reach ns = re at *
    generalize linesOf ns = l at *
    generalize ns.length = n at *
    obtain ⟨i0, hi, hz0, hz1, hz2⟩ := info_parts infoBool
    have HI := Lib.hid hi
    have HZ0 := Lib.hid hz0
    have HZ1 := Lib.hid hz1
    have HZ2 := Lib.hid hz2
    clear hi hz0 hz1 hz2
    have hn2' : (n : Int) ≤ 12 := by omega
    go_enter Try.func14, Try.ntmps14
    go_wp2_with fail
    refine HC.out.mono ?_
    rintro e w1 ⟨rfl, b1⟩
    have hz1 := b1.size
    clear HC
    go_wp2_with fail
    (with_reducible refine (newForest n hn2 _).mono ?_)
    rintro e w2 ⟨rfl, O2, b2⟩
    have B02 := b1.trans (b2.mono hz1)
    have HC3 := Lib.hid (HLN.out w2 B02)
    obtain ⟨g, hg⟩ : ∃ g, g = w1.heap.size := ⟨_, rfl⟩
    rw [← hg] at O2 ⊢
    have hgl : w.heap.size ≤ g := by omega
    have hg0 : g < w2.heap.size := (World.ownsRow.lt O2 g rfl).2
    clear b1 b2 HLN hg
    go_wp2_with fail
    refine HC3.out.mono ?_
    rintro e w3 ⟨v3, rfl, O3, b3⟩
    have F3 := Lib.hid (show IsForest w3 g g n id from own_below O2 b3 (Nat.le_refl _))
    have B03 := B02.trans (b3.mono B02.size)
    have hz3 := b3.size
    obtain ⟨L, hL⟩ : ∃ L, L = l.length := ⟨_, rfl⟩
    have HL := Lib.hid hL
    rw [← hL] at O3 hl144
    obtain ⟨a3, c3, e3⟩ := slice_form O3
    subst e3
    have HO3 := Lib.hid O3
    clear hL HC3 b3 O3 O2
    go_wp2
    go_loopw [17] (fun i wr => ∃ (m : Nat) (f : Nat → Nat), m ≤ L ∧ i = .int .i64 m ∧ Hid (IsForest wr g g n f) ∧ Hid (Forest n f (foldC (l.take m))) ∧ w3.grownBy wr (some g)) (fun i _ => L - (intOf i).toNat)
    case atStart => exact ⟨0, id, by omega, rfl, F3, Lib.hid (forest_id n), only_refl _ _⟩
    case round =>
      obtain ⟨m, f, hm, rfl, hO, hF, hG⟩ := hrel
      have hszr := hG.size
      by_cases hlt : m < L
      · have hkl : m < l.length := by have := HL.out; omega
        obtain ⟨gl, cl, e2, hl0, hl1, hlc, hlm, hcell⟩ := own_form HO3.out (by omega)
        cases e2
        have hne : some gl ≠ some g := by intro h; injection h with h; omega
        obtain ⟨u0, u1, u2⟩ := line_cells (w := wr) (xs := l) (b := gl) (o := 0) (fun j hj => (only_cell hG hl1 hne _).trans (hcell j (by have := HL.out; omega))) m hkl
        simp only [Nat.zero_add] at u0 u1 u2
        obtain ⟨hu1, hu2⟩ := HU.out _ (List.getElem_mem hkl)
        have HST := Lib.hid (show foldC (l.take (m + 1)) = joinC (foldC (l.take m)) l[m].u l[m].l by rw [List.take_succ_eq_append_getElem hkl, foldC_snoc])
        generalize l[m] = y at *
        obtain ⟨yu, yl, yn⟩ := y
        simp only at u0 u1 u2 hu1 hu2 HST
        unfold maxLen at hlm
        have HC := Lib.hid (join n hn2 f (foldC (l.take m)) hF.out yu yl hu1 hu2 g g (wr.alloc (.cells #[.int .i64 (yu : Int), .int .i64 (yl : Int), .int .i64 yn] 31)) (World.ownsRow.alloc hO.out _))
        have G4 := Lib.hid (only_alloc hG (.cells #[.int .i64 (yu : Int), .int .i64 (yl : Int), .int .i64 yn] 31))
        clear hcell hO hF hG
        go_wp2_with fail
        refine HC.out.mono ?_
        rintro e w5 ⟨⟨ve, rfl⟩, f5, hF5, hO5, g5⟩
        have G5 := Lib.hid (only_trans G4.out g5 (fun _ h => .inl h.symm))
        have HF5 := Lib.hid (show Forest n f5 (foldC (l.take (m + 1))) by rw [HST.out]; exact hF5.out)
        have HO5 := Lib.hid hO5
        clear HC G4 g5 hF5 hO5
        go_wp2
        go_roundw
        case rel => exact ⟨m + 1, f5, by omega, by go_num, HO5, HF5, G5.out⟩
        case measure => simp [intOf]; omega
      · obtain rfl : m = L := by omega
        obtain ⟨W4, rfl⟩ : ∃ W4, W4 = wr := ⟨_, rfl⟩
        have hF4 := hF.out
        rw [List.take_of_length_le (by have := HL.out; omega)] at hF4
        have hB4 : Below w.heap.size w W4 := below_only B03 hG B03.size (fun k hk => by injection hk with hk; omega)
        have HF4 := Lib.hid hF4
        have HB4 := Lib.hid hB4
        have hgW : g < W4.heap.size := by omega
        have hzw := hB4.size
        clear hG hF4 hB4 HO3 HU hF
        go_wp2_with (at_make; refine wpList_make_full _ rfl _ _ 25 rfl W4.heap.size 4 i0 (.bool false) 1 Try.underlying25 HI.out HZ0.out HZ1.out .i64 .i64 _ _ n rfl rfl rfl rfl (by rw [HZ2.out]; omega) (by unfold maxLen; omega) (Nat.le_refl _) ?_; intro w5 hown5 hgrow5)
        have B5 : Below W4.heap.size W4 w5 := (Below.refl W4.heap.size W4).grown hgrow5 (Nat.le_refl _) (fun j hj => by cases hj)
        rw [show (Value.bool false).cells = #[Value.bool false] from rfl, tab_made] at hown5
        have HO5 := Lib.hid (show IsForest w5 g g n f from own_below hO.out B5 (Nat.le_refl _))
        have HB5 := Lib.hid (HB4.out.trans (B5.mono hzw))
        obtain ⟨q, hq⟩ : ∃ q, q = W4.heap.size := ⟨_, rfl⟩
        have hqg : g < q := by omega
        have hqw : w.heap.size ≤ q := by omega
        rw [← hq] at hown5 ⊢
        have HR5 := Lib.hid hown5
        clear hgrow5 B5 hown5 hO HB4 hq
        go_loopw [33] (fun i wr => ∃ (k : Nat) (f : Nat → Nat), k ≤ n ∧ i = .int .i64 k ∧ Hid (wr.ownsRow q 4 1 (.slice (some ⟨q, 0, none⟩) n n) n (tab n (fun j => .bool (if j < k then re j else false)))) ∧ Hid (IsForest wr g g n f) ∧ Hid (Forest n f (foldC l)) ∧ Below w.heap.size w wr) (fun i _ => n - (intOf i).toNat)
        case atStart => exact ⟨0, f, by omega, rfl, HR5, HO5, HF4, HB5.out⟩
        case round =>
          obtain ⟨k, f, hk, rfl, hR, hO, hF, hB⟩ := hrel
          by_cases hltk : k < n
          · have HC1 := Lib.hid (find n hn2 f (foldC l) hF.out k hltk g g wr hO.out)
            have hk1 : (k : Int) < (n : Int) := by omega
            clear hF hO
            go_wp2_with fail
            refine HC1.out.mono ?_
            rintro e w6 ⟨rfl, f6, hF6, hO6, g6⟩
            have R6 := Lib.hid (own_kept hR.out g6 (by intro h; injection h with h; omega))
            have B6 := below_only hB g6 hB.size (fun j hj => by injection hj with hj; omega)
            have HC2 := Lib.hid (find n hn2 f6 (foldC l) hF6.out 0 (by omega) g g w6 hO6)
            clear HC1 g6 hF6 hO6 hR hB
            go_wp2_with fail
            refine HC2.out.mono ?_
            rintro e w7 ⟨rfl, f7, hF7, hO7, g7⟩
            have R7 := own_kept R6.out g7 (by intro h; injection h with h; omega)
            have B7 := below_only B6 g7 B6.size (fun j hj => by injection hj with hj; omega)
            have hFz := fun j => R7.frozenAt j
            have x0 : w7.cell? ⟨q, k, none⟩ = some (.bool (if k < k then re k else false)) := (R7.cellAt k (by omega)).trans (tab_get _ hltk)
            rw [if_neg (Nat.lt_irrefl k)] at x0
            have hrk := HRE.out k
            obtain ⟨o8, g8⟩ := R7.stored k (.bool (re k))
            rw [tab_set] at o8
            have HT := Lib.hid (show tab n (updV (fun j => .bool (if j < k then re j else false)) k (.bool (re k))) = tab n (fun j => .bool (if j < k + 1 then re j else false)) from tab_congr (fun i _ => by
              unfold updV
              by_cases e : i = k
              · subst e; simp
              · simp only [if_neg e]
                by_cases h : i < k
                · rw [if_pos h, if_pos (by omega)]
                · rw [if_neg h, if_neg (by omega)]))
            have R8 := Lib.hid o8
            have B8 := Lib.hid (below_only B7 g8 B7.size (fun j hj => by injection hj with hj; omega))
            have O8 := Lib.hid (show IsForest (w7.setCell ⟨q, k, none⟩ (.bool (re k))) g g n f7 from own_kept hO7 g8 (by intro h; injection h with h; omega))
            clear HC2 g7 g8 o8 hO7 B6 R6 R7 B7
            generalize foldC l k = ck at *
            generalize foldC l 0 = cz at *
            have HX := Lib.hid (show Hid ((w7.setCell ⟨q, k, none⟩ (.bool (re k))).ownsRow q 4 1 (.slice (some ⟨q, 0, none⟩) n n) n (tab n (fun j => .bool (if j < k + 1 then re j else false)))) by rw [← HT.out]; exact R8)
            clear HT R8
            by_cases hc : ck = cz
            · have hr : re k = true := by rw [hrk, hc]; simp
              rw [hr] at O8 B8 HX
              have hbe : ((ck : Int) == (cz : Int)) = true := by rw [beq_iff_eq]; omega
              clear hr hc hrk
              go_wp2
              go_roundw
              case rel => exact ⟨k + 1, f7, by omega, by go_num, HX.out, O8, hF7, B8.out⟩
              case measure => simp [intOf]; omega
            · have hr : re k = false := by rw [hrk]; simpa using hc
              rw [hr] at O8 B8 HX
              have hbe : ((ck : Int) == (cz : Int)) = false := by rw [beq_eq_false_iff_ne]; omega
              clear hr hc hrk
              go_wp2
              go_roundw
              case rel => exact ⟨k + 1, f7, by omega, by go_num, HX.out, O8, hF7, B8.out⟩
              case measure => simp [intOf]; omega
          · obtain rfl : k = n := by omega
            have HT := Lib.hid (show tab k (fun j => .bool (if j < k then re j else false)) = tab k (fun j => .bool (re j)) from tab_congr (fun i hi => by simp [hi]))
            go_wp2
            go_ret
            exact ⟨_, rfl, by rw [HE.out.1, HE.out.2, ← HT.out]; exact own_base hR.out hqw, hB⟩

end Go.Proofs.Ythdmpiioecogpaa.ReachI
