/-
  Contracts of SchemeResting, the program's and the reference's.
-/
import Derived.Test.YthdmpiioecogpaaDecays
import Derived.Test.YthdmpiioecogpaaMatchBest
import Derived.Test.YthdmpiioecogpaaTab
import Derived.Test.YthdmpiioecogpaaRowsInt
import Derived.Test.YthdmpiioecogpaaSchemeLaws
namespace Go.Proofs.Ythdmpiioecogpaa.Resting
open Go.RowKit Go.Proofs.Ythdmpiioecogpaa.Spin Go.Proofs.Ythdmpiioecogpaa.Row Go.Proofs.Ythdmpiioecogpaa.Plain Go.Proofs.Ythdmpiioecogpaa.Later Go.Proofs.Ythdmpiioecogpaa.Node Go.Proofs.Ythdmpiioecogpaa.Line Go.Proofs.Ythdmpiioecogpaa.LinesFn Go.Proofs.Ythdmpiioecogpaa.LinesS Go.Proofs.Ythdmpiioecogpaa.LinesP Go.Proofs.Ythdmpiioecogpaa.Decays Go.Proofs.Ythdmpiioecogpaa.MatchBest Go.Proofs.Ythdmpiioecogpaa.Tab Go.Proofs.Ythdmpiioecogpaa.SchemeLaws
set_option linter.unusedVariables false
set_option linter.unusedSimpArgs false

def up (l : List Ln) (i : Nat) : Bool := l.any fun y => y.u == i
def restTo (l : List Ln) (m : Nat) : List Int := ((List.range m).filter fun i => !up l i).map fun i : Nat => (i : Int)
theorem rest_yes {l : List Ln} {m : Nat} (h : up l m = false) : restTo l (m + 1) = restTo l m ++ [(m : Int)] := by
  unfold restTo; rw [List.range_succ, List.filter_append, List.map_append]; simp [h]
theorem rest_no {l : List Ln} {m : Nat} (h : up l m = true) : restTo l (m + 1) = restTo l m := by
  unfold restTo; rw [List.range_succ, List.filter_append, List.map_append]; simp [h]
theorem rest_len (l : List Ln) (m : Nat) : (restTo l m).length ≤ m := by
  unfold restTo; rw [List.length_map]; exact Nat.le_trans (List.length_filter_le _ _) (by simp)
def restingOf (ns : List Nd) : List Int := if schemeOk ns = true then restTo (linesOf ns) ns.length else []
theorem resting_yes {ns : List Nd} (h : schemeOk ns = true) : restingOf ns = restTo (linesOf ns) ns.length := by simp [restingOf, h]
theorem resting_no {ns : List Nd} (h : schemeOk ns = false) : restingOf ns = [] := by simp [restingOf, h]
theorem resting_len (ns : List Nd) : (restingOf ns).length ≤ 12 := by
  cases h : schemeOk ns
  · rw [resting_no h]; simp
  · rw [resting_yes h]; have := rest_len (linesOf ns) ns.length; have := (scheme_parts h).2.1; omega
theorem up_step {l : List Ln} {m : Nat} (hm : m < l.length) (i : Nat) : up (l.take (m + 1)) i = (if i = l[m].u then true else up (l.take m) i) := by
  unfold up
  rw [List.take_succ_eq_append_getElem hm, List.any_append]
  by_cases h : i = l[m].u
  · rw [if_pos h, h]; simp
  · have h2 : (l[m].u == i) = false := by rw [beq_eq_false_iff_ne]; exact fun e => h e.symm
    rw [if_neg h]; simp [h2]
theorem decays_none {ns : List Nd} {i : Nat} (h : up (linesOf ns) i = false) : (decaysOf ns (i : Int)).length = 0 := by
  rw [List.length_eq_zero_iff]
  unfold decaysOf
  rw [List.filter_eq_nil_iff]
  intro y hy he
  have h2 : up (linesOf ns) i = true := List.any_eq_true.2 ⟨y, hy, by simp at he; simp; omega⟩
  rw [h] at h2; cases h2
theorem decays_some {ns : List Nd} {i : Nat} (h : up (linesOf ns) i = true) : 0 < (decaysOf ns (i : Int)).length := by
  obtain ⟨y, hy, he⟩ := List.any_eq_true.1 h
  apply List.length_pos_of_mem (a := y)
  unfold decaysOf
  rw [List.mem_filter]
  exact ⟨hy, by simp at he; simp; omega⟩

set_option maxRecDepth 100000 in
set_option maxHeartbeats 4000000 in
theorem iSchemeResting (ns : List Nd) (v : Value) (w : World) (hs : Sees w 3 v ns.length (ns.flatMap encN)) :
    Calls Try.prog 23 #[v] w (GivesRow 3 1 (restingOf ns).length ((restingOf ns).flatMap RowsInt.encI) w) := by
  have HV := Lib.hid (fun r (h : schemeOk ns = r) => valid_is h hs)
  have HSS := Lib.hid (fun W (h : Below w.heap.size w W) => hs.below h (Nat.le_refl _))
  obtain ⟨a0, c0, rfl⟩ : ∃ a c, v = .slice a ns.length c := by
    rcases hs.2 with ⟨h0, a, c, rfl⟩ | ⟨b, o, c, rfl, _⟩
    · exact ⟨a, c, by rw [h0]⟩
    · exact ⟨_, _, rfl⟩
  clear hs
  cases hok : schemeOk ns
  · have HE := Lib.hid (resting_no hok)
    have HC := Lib.hid (HV.out _ hok)
    clear hok HV
    generalize ns.length = n at *
    go_enter Try.func23, Try.ntmps23
    go_wp2_with fail
    refine HC.out.mono ?_
    rintro e w1 ⟨rfl, b1⟩
    clear HC
    go_wp2
    go_ret
    exact ⟨_, rfl, by rw [HE.out]; exact World.ownsRow_nil _ _ _ _, b1⟩
  · have HE := Lib.hid (resting_yes hok)
    have HC := Lib.hid (HV.out _ hok)
    have hn1 := (scheme_parts hok).1
    have hn2 := (scheme_parts hok).2.1
    have HU := Lib.hid (fun y (hy : y ∈ linesOf ns) => (line_parts hy).1)
    have HLN := Lib.hid (fun W (h : Below w.heap.size w W) => iSchemeLines ns _ W (HSS.out W h))
    have hl144 := linesOf_len ns
    clear hok HV HSS
    rw [HE.out]
    clear HE
    generalize linesOf ns = l at *
    generalize ns.length = n at *
    obtain ⟨i0, hi, hz0, hz1, hz2⟩ := info_parts infoBool
    have HI := Lib.hid hi
    have HZ0 := Lib.hid hz0
    have HZ1 := Lib.hid hz1
    have HZ2 := Lib.hid hz2
    clear hi hz0 hz1 hz2
    obtain ⟨j0, hi, hz0, hz1, hz2⟩ := info_parts infoInt
    have JI := Lib.hid hi
    have JZ0 := Lib.hid hz0
    have JZ1 := Lib.hid hz1
    have JZ2 := Lib.hid hz2
    clear hi hz0 hz1 hz2
    have hn2' : (n : Int) ≤ 12 := by omega
    go_enter Try.func23, Try.ntmps23
    go_wp2_with fail
    refine HC.out.mono ?_
    rintro e w1 ⟨rfl, b1⟩
    have hz1 := b1.size
    clear HC
    go_wp2_with (at_make; refine wpList_make_full _ rfl _ _ 25 rfl w1.heap.size 4 i0 (.bool false) 1 Try.underlying25 HI.out HZ0.out HZ1.out .i64 .i64 _ _ n rfl rfl rfl rfl (by rw [HZ2.out]; omega) (by unfold maxLen; omega) (Nat.le_refl _) ?_; intro w2 hown2 hgrow2)
    have B2 : Below w1.heap.size w1 w2 := (Below.refl w1.heap.size w1).grown hgrow2 (Nat.le_refl _) (fun j hj => by cases hj)
    rw [show (Value.bool false).cells = #[Value.bool false] from rfl, tab_made] at hown2
    have HC3 := Lib.hid (HLN.out w2 (b1.trans (B2.mono hz1)))
    obtain ⟨g, hg⟩ : ∃ g, g = w1.heap.size := ⟨_, rfl⟩
    have HG := Lib.hid hg
    rw [← hg] at hown2 ⊢
    have hg0 := (hown2.lt g rfl).2
    have B02 := b1.trans (B2.mono hz1)
    clear hgrow2 HLN hg
    go_wp2_with fail
    refine HC3.out.mono ?_
    rintro e w3 ⟨v3, rfl, O3, b3⟩
    have hown3 := own_below hown2 b3 (Nat.le_refl _)
    have B03 := B02.trans (b3.mono B02.size)
    have hz3 := b3.size
    obtain ⟨L, hL⟩ : ∃ L, L = l.length := ⟨_, rfl⟩
    have HL := Lib.hid hL
    rw [← hL] at O3 hl144
    obtain ⟨a3, c3, e3⟩ := slice_form O3
    subst e3
    have HO3 := Lib.hid O3
    clear hL HC3 hown2 b3 B2 b1 O3
    go_wp2
    go_loopw [18] (fun i wr => ∃ m : Nat, m ≤ L ∧ i = .int .i64 m ∧ wr.ownsRow g 4 1 (.slice (some ⟨g, 0, none⟩) n n) n (tab n (fun j => .bool (up (l.take m) j))) ∧ w3.grownBy wr (some g)) (fun i _ => L - (intOf i).toNat)
    case atStart => exact ⟨0, by omega, rfl, by simpa [up] using hown3, only_refl _ _⟩
    case round =>
      obtain ⟨m, hm, rfl, hown, hG⟩ := hrel
      have hszr := hG.size
      by_cases hlt : m < L
      · have hkl : m < l.length := by have := HL.out; omega
        obtain ⟨gl, cl, e2, hl0, hl1, hlc, hlm, hcell⟩ := own_form HO3.out (by omega)
        cases e2
        have hne : some gl ≠ some g := by intro h; injection h with h; omega
        obtain ⟨u0, u1, u2⟩ := line_cells (w := wr) (xs := l) (b := gl) (o := 0) (fun j hj => (only_cell hG hl1 hne _).trans (hcell j (by have := HL.out; omega))) m hkl
        simp only [Nat.zero_add] at u0 u1 u2
        have hux := HU.out _ (List.getElem_mem hkl)
        have HST := Lib.hid (fun i => up_step hkl i)
        generalize l[m] = y at *
        obtain ⟨yu, yl, yn⟩ := y
        simp only at u0 u1 u2 hux HST
        unfold maxLen at hlm
        have hown1 := hown.alloc (.cells #[.int .i64 (yu : Int), .int .i64 (yl : Int), .int .i64 yn] 31)
        have hF := fun j => hown1.frozenAt j
        have x0 : (wr.alloc (.cells #[.int .i64 (yu : Int), .int .i64 (yl : Int), .int .i64 yn] 31)).cell? ⟨g, yu, none⟩ = some (.bool (up (l.take m) yu)) := (hown1.cellAt yu (by omega)).trans (tab_get _ hux)
        obtain ⟨o1, g1⟩ := hown1.stored yu (.bool true)
        rw [tab_set] at o1
        have OO := Lib.hid o1
        have GG := Lib.hid (only_trans (only_alloc hG (.cells #[.int .i64 (yu : Int), .int .i64 (yl : Int), .int .i64 yn] 31)) g1 (fun _ h => .inl h.symm))
        have HTC := Lib.hid (show tab n (updV (fun j => .bool (up (l.take m) j)) yu (.bool true)) = tab n (fun j => .bool (up (l.take (m + 1)) j)) from tab_congr (fun i _ => by
          unfold updV
          rw [HST.out i]
          split <;> rfl))
        clear o1 g1 hown hown1 hG HST hcell
        go_wp2
        go_roundw
        case rel => exact ⟨m + 1, by omega, by go_num, by rw [← HTC.out]; exact OO.out, GG.out⟩
        case measure => simp [intOf]; omega
      · obtain rfl : m = L := by omega
        obtain ⟨W4, rfl⟩ : ∃ W4, W4 = wr := ⟨_, rfl⟩
        rw [List.take_of_length_le (by have := HL.out; omega)] at hown
        have hB4 : Below w.heap.size w W4 := below_only B03 hG B03.size (fun k hk => by injection hk with hk; have := HG.out; omega)
        have hgw : g < W4.heap.size := by omega
        have HF := Lib.hid (fun W (h : Below W4.heap.size W4 W) (k : Nat) (hk : k < n) => show W.cell? ⟨g, k, none⟩ = some (.bool (up l k)) from (h.cell (p := ⟨g, k, none⟩) hgw).trans ((hown.cellAt k (by omega)).trans (tab_get _ hk)))
        have HB4 := Lib.hid hB4
        clear hown hG hB4 HO3 HU
        go_wp2
        go_loopw [6, 29] (fun u i wr => ∃ (k : Nat) (v2 : Value), v2 = u ∧ k ≤ n ∧ i = .int .i64 k ∧ wr.ownsRow W4.heap.size 3 1 v2 (restTo l k).length ((restTo l k).flatMap RowsInt.encI) ∧ Below W4.heap.size W4 wr) (fun _ i _ => n - (intOf i).toNat)
        case atStart => exact ⟨0, _, rfl, by omega, rfl, World.ownsRow_nil _ _ _ _, Below.refl _ _⟩
        case round =>
          obtain ⟨k, v2, rfl, hk, rfl, hown, hB⟩ := hrel
          have hsz := hB.size
          by_cases hlt : k < n
          · have u0 := HF.out _ hB k hlt
            have hpl := rest_len l k
            have HEN := Lib.hid (fun (P : List Int) (z : Int) => show (P ++ [z]).flatMap RowsInt.encI = P.flatMap RowsInt.encI ++ [.int .i64 z] by simp [RowsInt.encI])
            cases hup : up l k
            · have HR := Lib.hid (rest_yes hup)
              rw [hup] at u0
              generalize restTo l k = P at *
              obtain ⟨pl, hpl'⟩ : ∃ pl, pl = P.length := ⟨_, rfl⟩
              have HPL := Lib.hid hpl'
              rw [← hpl'] at hown hpl
              clear hpl' hup
              go_wp2_with (at_builtin; refine wpList_append_own _ rfl _ _ 37 rfl W4.heap.size 3 j0 (.int .i64 0) 1 8 Try.underlying37 JI.out JZ0.out JZ1.out JZ2.out rfl (by decide) _ _ _ rfl (hown.alloc _) ⟨wr.heap.size, 0, none⟩ 1 1 [.int .i64 (k : Int)] rfl rfl (cells_new _ _ _) (by simp [Value.oneCell']) (by unfold maxLen; omega) (by omega) (by simp; omega) ?_)
              intro v' w5 hown' hgrow _
              have B5 := own_step hB (Nat.le_refl _) hgrow (fun k hk => (hown.lt k hk).1)
              have O5 : w5.ownsRow W4.heap.size 3 1 v' (P ++ [(k : Int)]).length ((P ++ [(k : Int)]).flatMap RowsInt.encI) := by
                rw [HEN.out, List.length_append, ← HPL.out]
                exact hown'
              clear hown' hgrow hown u0
              go_wp2
              go_roundw
              case rel => exact ⟨k + 1, v', rfl, by omega, by go_num, by rw [HR.out]; exact O5, B5⟩
              case measure => simp [intOf]; omega
            · have HR := Lib.hid (rest_no hup)
              rw [hup] at u0
              clear hup
              go_wp2
              go_roundw
              case rel => exact ⟨k + 1, v2, rfl, by omega, by go_num, by rw [HR.out]; exact hown, hB⟩
              case measure => simp [intOf]; omega
          · obtain rfl : k = n := by omega
            have hz4 := HB4.out.size
            go_wp2
            go_ret
            exact ⟨_, rfl, own_base hown hz4, HB4.out.trans (hB.mono hz4)⟩

theorem own_emptyI (w : World) (base : Nat) (hb : base ≤ w.heap.size) : (w.alloc (.cells #[] 3)).ownsRow base 3 1 (.slice (some ⟨w.heap.size, 0, none⟩) 0 0) 0 [] := by
  have h := World.ownsRow_lit (base := base) (e := 3) (size := 1) w #[] 0 (by simpa using hb) (by decide) rfl
  simpa using h

set_option maxRecDepth 100000 in
set_option maxHeartbeats 4000000 in
theorem sSchemeResting (ns : List Nd) (v : Value) (w : World) (hs : Sees w 3 v ns.length (ns.flatMap encN)) :
    Calls Try.prog 24 #[v] w (GivesRow 3 1 (restingOf ns).length ((restingOf ns).flatMap RowsInt.encI) w) := by
  have HSS := Lib.hid (fun W (h : Below w.heap.size w W) => hs.below h (Nat.le_refl _))
  obtain ⟨a0, c0, rfl⟩ : ∃ a c, v = .slice a ns.length c := by
    rcases hs.2 with ⟨h0, a, c, rfl⟩ | ⟨b, o, c, rfl, _⟩
    · exact ⟨a, c, by rw [h0]⟩
    · exact ⟨_, _, rfl⟩
  have hlen := sees_len hs
  have HV := Lib.hid (fun W (h : Below w.heap.size w W) r (hr : schemeOk ns = r) => svalid_is hr (HSS.out W h))
  have HD := Lib.hid (fun W (h : Below w.heap.size w W) (i : Int) => sSchemeDecays ns i _ W (HSS.out W h))
  clear hs
  obtain ⟨n, hn⟩ : ∃ n, n = ns.length := ⟨_, rfl⟩
  have HN := Lib.hid hn
  rw [← hn] at HV HD hlen ⊢
  clear hn HSS
  have HE0 := Lib.hid (own_emptyI w w.heap.size (Nat.le_refl _))
  have hB0 : Below w.heap.size w (w.alloc (.cells #[] 3)) := (by repeat (first | (with_reducible refine Below.drew ?_) | (with_reducible refine below_drewN ?_ _) | (with_reducible refine Below.alloc ?_ ?_ _) | (with_reducible refine Below.setCell ?_ ?_ _) | (with_reducible assumption) | (with_reducible exact Below.refl _ _) | omega | (simp <;> omega)))
  have HB0 := Lib.hid hB0
  clear hB0
  cases hok : schemeOk ns
  · have HE := Lib.hid (resting_no hok)
    have HC := Lib.hid (HV.out _ HB0.out _ hok)
    clear hok HV HD
    by_cases hz : n = 0
    · subst hz
      go_enter Try.func24, Try.ntmps24
      go_wp2
      go_loopw [3, 4] (fun u i wr => u = .slice (some ⟨w.heap.size, 0, none⟩) 0 0 ∧ i = .int .i64 0 ∧ wr = w.alloc (.cells #[] 3)) (fun _ _ _ => 0)
      case atStart => exact ⟨rfl, rfl, rfl⟩
      case round =>
        obtain ⟨rfl, rfl, rfl⟩ := hrel
        go_wp2
        go_ret
        exact ⟨_, rfl, by rw [HE.out]; exact HE0.out, HB0.out⟩
    · have hzN : 0 < n := by omega
      go_enter Try.func24, Try.ntmps24
      go_wp2
      go_loopw [3, 4] (fun u i wr => u = .slice (some ⟨w.heap.size, 0, none⟩) 0 0 ∧ i = .int .i64 0 ∧ wr = w.alloc (.cells #[] 3)) (fun _ _ _ => 0)
      case atStart => exact ⟨rfl, rfl, rfl⟩
      case round =>
        obtain ⟨rfl, rfl, rfl⟩ := hrel
        go_wp2_with fail
        refine HC.out.mono ?_
        rintro e w1 ⟨rfl, b1⟩
        have O1 := own_below HE0.out b1 (Nat.le_refl _)
        have B1 := HB0.out.trans (b1.mono HB0.out.size)
        clear HC b1
        go_wp2
        go_ret
        exact ⟨_, rfl, by rw [HE.out]; exact O1, B1⟩
  · have HE := Lib.hid (resting_yes hok)
    have HVV := Lib.hid (fun W (h : Below w.heap.size w W) => HV.out W h _ hok)
    have hn1 := (scheme_parts hok).1
    have hn2 := (scheme_parts hok).2.1
    rw [← HN.out] at hn1 hn2
    clear hok HV
    obtain ⟨j0, hi, hz0, hz1, hz2⟩ := info_parts infoInt
    have JI := Lib.hid hi
    have JZ0 := Lib.hid hz0
    have JZ1 := Lib.hid hz1
    have JZ2 := Lib.hid hz2
    clear hi hz0 hz1 hz2
    go_enter Try.func24, Try.ntmps24
    go_wp2
    go_loopw [3, 4] (fun u i wr => ∃ (k : Nat) (v2 : Value), v2 = u ∧ k ≤ n ∧ i = .int .i64 k ∧ wr.ownsRow w.heap.size 3 1 v2 (restTo (linesOf ns) k).length ((restTo (linesOf ns) k).flatMap RowsInt.encI) ∧ Below w.heap.size w wr) (fun _ i _ => n - (intOf i).toNat)
    case atStart => exact ⟨0, _, rfl, by omega, rfl, by simpa [restTo] using HE0.out, HB0.out⟩
    case round =>
      obtain ⟨k, v2, rfl, hk, rfl, hown, hB⟩ := hrel
      by_cases hlt : k < n
      · have HC1 := Lib.hid (HVV.out wr hB)
        have hlt' : (k : Int) < (n : Int) := by omega
        go_wp2_with fail
        refine HC1.out.mono ?_
        rintro e w1 ⟨rfl, b1⟩
        have O1 := own_below hown b1 (Nat.le_refl _)
        have B1 := hB.trans (b1.mono hB.size)
        have HC2 := Lib.hid (HD.out w1 B1 (k : Int))
        clear HC1 b1 hown hB
        go_wp2_with fail
        refine HC2.out.mono ?_
        rintro e w2 ⟨v3, rfl, Q2, b2⟩
        have O2 := own_below O1 b2 (Nat.le_refl _)
        have B2 := B1.trans (b2.mono B1.size)
        have hz2 := B2.size
        obtain ⟨a3, c3, e3⟩ := slice_form Q2
        subst e3
        clear HC2 b2 O1 B1 Q2
        have hpl := rest_len (linesOf ns) k
        have HEN := Lib.hid (fun (P : List Int) (z : Int) => show (P ++ [z]).flatMap RowsInt.encI = P.flatMap RowsInt.encI ++ [.int .i64 z] by simp [RowsInt.encI])
        cases hup : up (linesOf ns) k
        · have HR := Lib.hid (rest_yes hup)
          rw [decays_none hup]
          generalize restTo (linesOf ns) k = P at *
          obtain ⟨pl, hpl'⟩ : ∃ pl, pl = P.length := ⟨_, rfl⟩
          have HPL := Lib.hid hpl'
          rw [← hpl'] at O2 hpl
          clear hpl' hup
          go_wp2_with (at_builtin; refine wpList_append_own _ rfl _ _ 37 rfl w.heap.size 3 j0 (.int .i64 0) 1 8 Try.underlying37 JI.out JZ0.out JZ1.out JZ2.out rfl (by decide) _ _ _ rfl (O2.alloc _) ⟨w2.heap.size, 0, none⟩ 1 1 [.int .i64 (k : Int)] rfl rfl (cells_new _ _ _) (by simp [Value.oneCell']) (by unfold maxLen; omega) (by omega) (by simp; omega) ?_)
          intro v' w5 hown' hgrow _
          have B5 := own_step B2 (Nat.le_refl _) hgrow (fun k hk => (O2.lt k hk).1)
          have O5 : w5.ownsRow w.heap.size 3 1 v' (P ++ [(k : Int)]).length ((P ++ [(k : Int)]).flatMap RowsInt.encI) := by
            rw [HEN.out, List.length_append, ← HPL.out]
            exact hown'
          clear hown' hgrow O2
          go_wp2
          go_roundw
          case rel => exact ⟨k + 1, v', rfl, by omega, by go_num, by rw [HR.out]; exact O5, B5⟩
          case measure => simp [intOf]; omega
        · have HR := Lib.hid (rest_no hup)
          have hd := decays_some hup
          have hd2 := decays_len ns (k : Int)
          generalize (decaysOf ns (k : Int)).length = M at *
          have hd' : ((M : Int) == 0) = false := by rw [beq_eq_false_iff_ne]; omega
          clear hup
          go_wp2
          go_roundw
          case rel => exact ⟨k + 1, v2, rfl, by omega, by go_num, by rw [HR.out]; exact O2, B2⟩
          case measure => simp [intOf]; omega
      · obtain rfl : k = n := by omega
        go_wp2
        go_ret
        exact ⟨_, rfl, by rw [HE.out, ← HN.out]; exact hown, hB⟩

end Go.Proofs.Ythdmpiioecogpaa.Resting
