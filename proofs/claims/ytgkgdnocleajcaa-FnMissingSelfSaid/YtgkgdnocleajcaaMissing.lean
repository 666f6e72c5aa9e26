/-
  Contracts of MatchAll and MatchMissing at a valid scheme, wave numbers in range and tolerance 0.
-/
import Derived.Test.YtgkgdnocleajcaaMatchBest
import Derived.Test.YtgkgdnocleajcaaTab
import Derived.Test.YtgkgdnocleajcaaRowsInt
import Derived.Test.YtgkgdnocleajcaaSchemeLaws
namespace Go.Proofs.Ytgkgdnocleajcaa.Missing
open Go.RowKit Go.Proofs.Ytgkgdnocleajcaa.Spin Go.Proofs.Ytgkgdnocleajcaa.Row Go.Proofs.Ytgkgdnocleajcaa.Plain Go.Proofs.Ytgkgdnocleajcaa.Later Go.Proofs.Ytgkgdnocleajcaa.Node Go.Proofs.Ytgkgdnocleajcaa.Line Go.Proofs.Ytgkgdnocleajcaa.LinesFn Go.Proofs.Ytgkgdnocleajcaa.LinesS Go.Proofs.Ytgkgdnocleajcaa.LinesP Go.Proofs.Ytgkgdnocleajcaa.Nearest Go.Proofs.Ytgkgdnocleajcaa.MatchBest Go.Proofs.Ytgkgdnocleajcaa.Tab Go.Proofs.Ytgkgdnocleajcaa.SchemeLaws
set_option linter.unusedVariables false
set_option linter.unusedSimpArgs false

def bests (l : List Ln) (xs : List Int) : List Int := xs.map fun x => nearest l x 0
theorem bests_len (l : List Ln) (xs : List Int) : (bests l xs).length = xs.length := by simp [bests]
theorem bests_step {l : List Ln} {xs : List Int} {m : Nat} (hm : m < xs.length) : bests l (xs.take (m + 1)) = bests l (xs.take m) ++ [nearest l xs[m] 0] := by
  unfold bests; rw [List.take_succ_eq_append_getElem hm, List.map_append]; rfl
def hit (rs : List Int) (i : Nat) : Bool := rs.any fun r => r == (i : Int)
theorem hit_step {rs : List Int} {m : Nat} (hm : m < rs.length) (i : Nat) : hit (rs.take (m + 1)) i = (hit (rs.take m) i || (rs[m] == (i : Int))) := by
  unfold hit; rw [List.take_succ_eq_append_getElem hm, List.any_append]; simp
def missTo (rs : List Int) (m : Nat) : List Int := ((List.range m).filter fun i => !hit rs i).map fun i : Nat => (i : Int)
theorem miss_yes {rs : List Int} {m : Nat} (h : hit rs m = false) : missTo rs (m + 1) = missTo rs m ++ [(m : Int)] := by
  unfold missTo; rw [List.range_succ, List.filter_append, List.map_append]; simp [h]
theorem miss_no {rs : List Int} {m : Nat} (h : hit rs m = true) : missTo rs (m + 1) = missTo rs m := by
  unfold missTo; rw [List.range_succ, List.filter_append, List.map_append]; simp [h]
theorem miss_len (rs : List Int) (m : Nat) : (missTo rs m).length ≤ m := by
  unfold missTo; rw [List.length_map]; exact Nat.le_trans (List.length_filter_le _ _) (by simp)
theorem miss_at {rs : List Int} {m q : Nat} (hq : q < (missTo rs m).length) : ∃ j : Nat, (missTo rs m)[q] = (j : Int) ∧ j < m ∧ hit rs j = false := by
  have h := List.getElem_mem hq
  unfold missTo at h
  obtain ⟨j, hj, he⟩ := List.mem_map.1 h
  rw [List.mem_filter, List.mem_range] at hj
  exact ⟨j, by unfold missTo; exact he.symm, hj.1, by simpa using hj.2⟩
theorem encI_snoc (P : List Int) (z : Int) : (P ++ [z]).flatMap RowsInt.encI = P.flatMap RowsInt.encI ++ [.int .i64 z] := by simp [RowsInt.encI]

set_option maxRecDepth 100000 in
set_option maxHeartbeats 2000000 in
theorem matchAll_long (ns : List Nd) (v : Value) (a : Option Addr) (n c : Nat) (w : World) (hs : Sees w 3 v ns.length (ns.flatMap encN)) (hok : schemeOk ns = true) (hn : 40 < n) (hn2 : n ≤ 1000) :
    Calls Try.prog 50 #[v, .slice a n c, .int .i64 0] w (Gives (.tuple #[.slice none 0 0, .bool false]) w) := by
  have HC := Lib.hid (valid_is hok hs)
  have hnI : (40 : Int) < (n : Int) := by omega
  clear hs hok
  go_enter Try.func50, Try.ntmps50
  go_wp2_with fail
  refine HC.out.mono ?_
  rintro e w1 ⟨rfl, b1⟩
  clear HC
  go_wp2
  go_ret2
  exact ⟨rfl, b1⟩

set_option maxRecDepth 100000 in
set_option maxHeartbeats 4000000 in
theorem matchAll (ns : List Nd) (v vs : Value) (xs : List Int) (w : World) (hs : Sees w 3 v ns.length (ns.flatMap encN)) (hok : schemeOk ns = true) (hx : Sees w 1 vs xs.length (xs.flatMap RowsInt.encI)) (hn : xs.length ≤ 40) (hxs : ∀ x ∈ xs, 0 ≤ x ∧ x ≤ 200000) :
    Calls Try.prog 50 #[v, vs, .int .i64 0] w fun e w' => ∃ v', e = .returned (.tuple #[v', .bool true]) ∧ w'.ownsRow w.heap.size 3 1 v' xs.length ((bests (linesOf ns) xs).flatMap RowsInt.encI) ∧ Below w.heap.size w w' := by
  have HC := Lib.hid (valid_is hok hs)
  have HLN := Lib.hid (fun W (h : Below w.heap.size w W) => iSchemeLines ns v W (hs.below h (Nat.le_refl _)))
  have hl144 := linesOf_len ns
  have hasc := lines_asc ns
  have hbd := line_bd ns
  have HSX := Lib.hid (fun W (h : Below w.heap.size w W) => hx.below h (Nat.le_refl _))
  obtain ⟨a0, c0, rfl⟩ : ∃ a c, vs = .slice a xs.length c := by
    rcases hx.2 with ⟨h0, a, c, rfl⟩ | ⟨b, o, c, rfl, _⟩
    · exact ⟨a, c, by rw [h0]⟩
    · exact ⟨_, _, rfl⟩
  have HXS := Lib.hid hxs
  generalize linesOf ns = l at *
  have HNR := Lib.hid (fun W v1 (x : Int) (h : Sees W 3 v1 l.length (l.flatMap encLn)) (hx : 0 ≤ x ∧ x ≤ 200000) => nearestLine l v1 x 0 W h hasc (by omega) hx ⟨by omega, by omega⟩ hbd)
  clear hs hok hx hxs hasc hbd
  obtain ⟨n, hn'⟩ : ∃ n, n = xs.length := ⟨_, rfl⟩
  have HN := Lib.hid hn'
  rw [← hn'] at hn HSX ⊢
  clear hn'
  obtain ⟨j0, hi, hz0, hz1, hz2⟩ := info_parts infoInt
  have JI := Lib.hid hi
  have JZ0 := Lib.hid hz0
  have JZ1 := Lib.hid hz1
  have JZ2 := Lib.hid hz2
  clear hi hz0 hz1 hz2
  have hnI : (n : Int) ≤ 40 := by omega
  go_enter Try.func50, Try.ntmps50
  go_wp2_with fail
  refine HC.out.mono ?_
  rintro e w1 ⟨rfl, b1⟩
  have HC2 := Lib.hid (HLN.out w1 b1)
  clear HC HLN
  go_wp2_with fail
  (with_reducible refine (seen_is (x := 0) (t := 0) (r := true) _ rfl).mono ?_)
  rintro e w' ⟨rfl, rfl⟩
  go_wp2_with fail
  refine HC2.out.mono ?_
  rintro e w2 ⟨v2, rfl, O2, b2⟩
  have B2 := b1.trans (b2.mono b1.size)
  have HS2 := Lib.hid (fun W (h : Below w2.heap.size w2 W) => Sees.of_own (own_below O2 h (Nat.le_refl _)))
  have hz2 := B2.size
  have HB2 := Lib.hid B2
  clear HC2 b1 b2 O2 B2
  go_wp2_with (at_make; refine wpList_make_own _ rfl _ _ 44 rfl w2.heap.size 3 j0 (.int .i64 0) 1 Try.underlying44 JI.out JZ0.out JZ1.out .i64 .i64 _ n rfl rfl rfl (by rw [JZ2.out]; omega) (by unfold maxLen; omega) (Nat.le_refl _) ?_; intro w3 hown3 hgrow3)
  have B3 : Below w2.heap.size w2 w3 := (Below.refl w2.heap.size w2).grown hgrow3 (Nat.le_refl _) (fun j hj => by cases hj)
  have HO3 := Lib.hid hown3
  have HB3 := Lib.hid B3
  obtain ⟨v3, hv3⟩ : ∃ v3, v3 = Value.slice (some ⟨w2.heap.size, 0, none⟩) 0 n := ⟨_, rfl⟩
  rw [← hv3] at HO3 ⊢
  clear hown3 hgrow3 B3 hv3
  go_loopw [9, 32] (fun u i wr => ∃ (m : Nat) (v4 : Value), v4 = u ∧ m ≤ n ∧ i = .int .i64 m ∧ wr.ownsRow w2.heap.size 3 1 v4 m ((bests l (xs.take m)).flatMap RowsInt.encI) ∧ Below w2.heap.size w2 wr) (fun _ i _ => n - (intOf i).toNat)
  case atStart => exact ⟨0, _, rfl, by omega, rfl, by simpa [bests] using HO3.out, HB3.out⟩
  case round =>
    obtain ⟨m, v4, rfl, hm, rfl, hown, hB⟩ := hrel
    have hsz := hB.size
    by_cases hlt : m < n
    · have hml : m < xs.length := by have := HN.out; omega
      rcases (HSX.out wr (HB2.out.trans (hB.mono hz2))).2 with ⟨h0, _⟩ | ⟨b, o, c, hv, hnc, hcm, hb, hcell⟩
      · omega
      · cases hv
        have u0 := RowsInt.at_Int (xs := xs) (b := b) (o := o) (w := wr) (fun j hj => hcell j (by have := HN.out; omega)) m hml
        have hxm := HXS.out _ (List.getElem_mem hml)
        have hsn : seenOk xs[m] 0 = true := seenOk_true.2 ⟨hxm, by omega, by omega⟩
        have HC4 := Lib.hid (HNR.out wr v2 xs[m] (HS2.out wr hB) hxm)
        have HST := Lib.hid (bests_step (l := l) hml)
        generalize xs[m] = x at *
        unfold maxLen at hcm
        have hmI : (m : Int) < (n : Int) := by omega
        clear hcell
        go_wp2_with fail
        (with_reducible refine (seen_is _ hsn).mono ?_)
        rintro e w' ⟨rfl, rfl⟩
        go_wp2_with fail
        refine HC4.out.mono ?_
        rintro e w5 ⟨rfl, b5⟩
        have O5 := own_below hown b5 (Nat.le_refl _)
        have B5 := hB.trans (b5.mono hsz)
        have hz5 := B5.size
        generalize nearest l x 0 = r at *
        clear HC4 b5 hown hB u0
        go_wp2_with (at_builtin; refine wpList_append_own _ rfl _ _ 44 rfl w2.heap.size 3 j0 (.int .i64 0) 1 8 Try.underlying44 JI.out JZ0.out JZ1.out JZ2.out rfl (by decide) _ _ _ rfl (O5.alloc _) ⟨w5.heap.size, 0, none⟩ 1 1 [.int .i64 r] rfl rfl (cells_new _ _ _) (by simp [Value.oneCell']) (by unfold maxLen; omega) (by omega) (by simp; omega) ?_)
        intro v' w6 hown' hgrow _
        have B6 := own_step B5 (Nat.le_refl _) hgrow (fun k hk => (O5.lt k hk).1)
        have O6 : w6.ownsRow w2.heap.size 3 1 v' (m + 1) ((bests l (xs.take (m + 1))).flatMap RowsInt.encI) := by rw [HST.out, encI_snoc]; exact hown'
        clear hown' hgrow O5
        go_wp2
        go_roundw
        case rel => exact ⟨m + 1, v', rfl, by omega, by go_num, O6, B6⟩
        case measure => simp [intOf]; omega
    · obtain rfl : m = n := by omega
      rw [List.take_of_length_le (by have := HN.out; omega)] at hown
      go_wp2
      go_ret2
      exact ⟨_, rfl, own_base hown hz2, HB2.out.trans (hB.mono hz2)⟩

set_option maxRecDepth 100000 in
set_option maxHeartbeats 2000000 in
theorem missing_long (ns : List Nd) (v : Value) (a : Option Addr) (n c : Nat) (w : World) (hs : Sees w 3 v ns.length (ns.flatMap encN)) (hok : schemeOk ns = true) (hn : 40 < n) (hn2 : n ≤ 1000) :
    Calls Try.prog 31 #[v, .slice a n c, .int .i64 0] w (Gives (.tuple #[.slice none 0 0, .bool false]) w) := by
  have HC := Lib.hid (matchAll_long ns v a n c w hs hok hn hn2)
  clear hs hok
  go_enter Try.func31, Try.ntmps31
  go_wp2_with fail
  refine HC.out.mono ?_
  rintro e w1 ⟨rfl, b1⟩
  clear HC
  go_wp2
  go_ret2
  exact ⟨rfl, b1⟩

set_option maxRecDepth 100000 in
set_option maxHeartbeats 4000000 in
theorem missing (ns : List Nd) (v vs : Value) (xs : List Int) (w : World) (hs : Sees w 3 v ns.length (ns.flatMap encN)) (hok : schemeOk ns = true) (hx : Sees w 1 vs xs.length (xs.flatMap RowsInt.encI)) (hn : xs.length ≤ 40) (hxs : ∀ x ∈ xs, 0 ≤ x ∧ x ≤ 200000) :
    Calls Try.prog 31 #[v, vs, .int .i64 0] w fun e w' => ∃ v', e = .returned (.tuple #[v', .bool true]) ∧ w'.ownsRow w.heap.size 3 1 v' (missTo (bests (linesOf ns) xs) (linesOf ns).length).length ((missTo (bests (linesOf ns) xs) (linesOf ns).length).flatMap RowsInt.encI) ∧ Below w.heap.size w w' := by
  have HC := Lib.hid (matchAll ns v vs xs w hs hok hx hn hxs)
  have HLN := Lib.hid (fun W (h : Below w.heap.size w W) => iSchemeLines ns v W (hs.below h (Nat.le_refl _)))
  have hl144 := linesOf_len ns
  have HBN := Lib.hid (fun r (hr : r ∈ bests (linesOf ns) xs) => show -1 ≤ r ∧ r < (linesOf ns).length by
    unfold bests at hr
    obtain ⟨x, _, rfl⟩ := List.mem_map.1 hr
    exact nearest_bounds (lines_asc ns) x 0)
  have hbl := bests_len (linesOf ns) xs
  generalize bests (linesOf ns) xs = rs at *
  generalize linesOf ns = l at *
  clear hs hok hx hxs
  rw [← hbl] at HC hn
  clear hbl
  obtain ⟨n, hn'⟩ : ∃ n, n = rs.length := ⟨_, rfl⟩
  have HN := Lib.hid hn'
  rw [← hn'] at hn HC
  clear hn'
  obtain ⟨L, hL⟩ : ∃ L, L = l.length := ⟨_, rfl⟩
  have HL := Lib.hid hL
  rw [← hL] at HLN hl144 HBN ⊢
  clear hL
  obtain ⟨i0, hi, hz0, hz1, hz2⟩ := info_parts infoBool
  have HI := Lib.hid hi
  have HZ0 := Lib.hid hz0
  have HZ1 := Lib.hid hz1
  have HZ2 := Lib.hid hz2
  clear hi hz0 hz1 hz2
  obtain ⟨j0, hi, hz0, hz1, hz2⟩ := info_parts infoInt
  have JI := Lib.hid hi
  have JZ0 := Lib.hid hz0
  have JZ1 := Lib.hid hz1
  have JZ2 := Lib.hid hz2
  clear hi hz0 hz1 hz2
  have hlI : (L : Int) ≤ 144 := by omega
  go_enter Try.func31, Try.ntmps31
  go_wp2_with fail
  refine HC.out.mono ?_
  rintro e w1 ⟨v1, rfl, O1, b1⟩
  obtain ⟨a1, c1, e1⟩ := slice_form O1
  subst e1
  have HC2 := Lib.hid (HLN.out w1 b1)
  clear HC HLN
  go_wp2_with fail
  refine HC2.out.mono ?_
  rintro e w2 ⟨v2, rfl, O2, b2⟩
  have B2 := b1.trans (b2.mono b1.size)
  have O12 := own_below O1 b2 (Nat.le_refl _)
  obtain ⟨a2, c2, e2⟩ := slice_form O2
  subst e2
  have hz2 := B2.size
  have HB2 := Lib.hid B2
  clear HC2 b1 b2 O2 B2 O1
  go_wp2_with (at_make; refine wpList_make_full _ rfl _ _ 65 rfl w2.heap.size 4 i0 (.bool false) 1 Try.underlying65 HI.out HZ0.out HZ1.out .i64 .i64 _ _ L rfl rfl rfl rfl (by rw [HZ2.out]; omega) (by unfold maxLen; omega) (Nat.le_refl _) ?_; intro w3 hown3 hgrow3)
  have B3 : Below w2.heap.size w2 w3 := (Below.refl w2.heap.size w2).grown hgrow3 (Nat.le_refl _) (fun j hj => by cases hj)
  rw [show (Value.bool false).cells = #[Value.bool false] from rfl, tab_made] at hown3
  have HO13 := Lib.hid (own_below O12 B3 (Nat.le_refl _))
  have HB3 := Lib.hid (HB2.out.trans (B3.mono hz2))
  have HLT := Lib.hid (fun g (h : (Value.slice a1 n c1).ownBlock = some g) => (O12.lt g h).2)
  have hz3 := B3.size
  obtain ⟨g, hg⟩ : ∃ g, g = w2.heap.size := ⟨_, rfl⟩
  have hgw : w.heap.size ≤ g := by omega
  rw [← hg] at hown3 HLT ⊢
  have hg3 := (hown3.lt g rfl).2
  have HO3 := Lib.hid hown3
  clear hown3 hgrow3 B3 hg O12 HB2
  go_loopw [31] (fun i wr => ∃ m : Nat, m ≤ n ∧ i = .int .i64 m ∧ wr.ownsRow g 4 1 (.slice (some ⟨g, 0, none⟩) L L) L (tab L (fun j => .bool (hit (rs.take m) j))) ∧ w3.grownBy wr (some g)) (fun i _ => n - (intOf i).toNat)
  case atStart => exact ⟨0, by omega, rfl, by simpa [hit] using HO3.out, only_refl _ _⟩
  case round =>
    obtain ⟨m, hm, rfl, hown, hG⟩ := hrel
    have hszr := hG.size
    by_cases hlt : m < n
    · have hml : m < rs.length := by have := HN.out; omega
      obtain ⟨gb, cb, e2, hb0, hb1, hbc, hbm, hcell⟩ := own_form HO13.out (by omega)
      cases e2
      have hgbg := HLT.out gb rfl
      have hne : some gb ≠ some g := by intro h; injection h with h; omega
      have u0 := RowsInt.at_Int (xs := rs) (b := gb) (o := 0) (w := wr) (fun j hj => (only_cell hG hb1 hne _).trans (hcell j (by have := HN.out; omega))) m hml
      rw [Nat.zero_add] at u0
      obtain ⟨hr0, hr1⟩ := HBN.out _ (List.getElem_mem hml)
      have HST := Lib.hid (fun i => hit_step hml i)
      generalize rs[m] = r at *
      unfold maxLen at hbm
      have hmI : (m : Int) < (n : Int) := by omega
      by_cases hneg : r < 0
      · have HTC := Lib.hid (show tab L (fun j => .bool (hit (rs.take m) j)) = tab L (fun j => .bool (hit (rs.take (m + 1)) j)) from tab_congr (fun i _ => by
          rw [HST.out i]
          have : (r == (i : Int)) = false := by rw [beq_eq_false_iff_ne]; omega
          rw [this, Bool.or_false]))
        clear hcell HST
        go_wp2
        go_roundw
        case rel => exact ⟨m + 1, by omega, by go_num, by rw [← HTC.out]; exact hown, hG⟩
        case measure => simp [intOf]; omega
      · obtain ⟨k, rfl⟩ : ∃ k : Nat, r = k := ⟨r.toNat, by omega⟩
        have hkL : k < L := by omega
        have hF := fun j => hown.frozenAt j
        have x0 : wr.cell? ⟨g, k, none⟩ = some (.bool (hit (rs.take m) k)) := (hown.cellAt k (by omega)).trans (tab_get _ hkL)
        obtain ⟨o1, g1⟩ := hown.stored k (.bool true)
        rw [tab_set] at o1
        have HTC := Lib.hid (show tab L (updV (fun j => .bool (hit (rs.take m) j)) k (.bool true)) = tab L (fun j => .bool (hit (rs.take (m + 1)) j)) from tab_congr (fun i _ => by
          rw [HST.out i]
          unfold updV
          by_cases e : i = k
          · subst e; simp
          · have h2 : ((k : Int) == (i : Int)) = false := by rw [beq_eq_false_iff_ne]; omega
            simp only [if_neg e]
            rw [h2, Bool.or_false]))
        have OO := Lib.hid o1
        have GG := Lib.hid (only_trans hG g1 (fun _ h => .inl h.symm))
        clear hcell HST o1 g1 hown hG hneg
        go_wp2
        go_roundw
        case rel => exact ⟨m + 1, by omega, by go_num, by rw [← HTC.out]; exact OO.out, GG.out⟩
        case measure => simp [intOf]; omega
    · obtain rfl : m = n := by omega
      obtain ⟨W4, rfl⟩ : ∃ W4, W4 = wr := ⟨_, rfl⟩
      rw [List.take_of_length_le (by have := HN.out; omega)] at hown
      have hB4 : Below w.heap.size w W4 := below_only HB3.out hG HB3.out.size (fun k hk => by injection hk with hk; omega)
      have hgW : g < W4.heap.size := by omega
      have HF := Lib.hid (fun W (h : Below W4.heap.size W4 W) (k : Nat) (hk : k < L) => show W.cell? ⟨g, k, none⟩ = some (.bool (hit rs k)) from (h.cell (p := ⟨g, k, none⟩) hgW).trans ((hown.cellAt k (by omega)).trans (tab_get _ hk)))
      have HB4 := Lib.hid hB4
      clear hown hG hB4 HO13 HBN HO3
      go_wp2
      go_loopw [13, 43] (fun u i wr => ∃ (k : Nat) (v2 : Value), v2 = u ∧ k ≤ L ∧ i = .int .i64 k ∧ wr.ownsRow W4.heap.size 3 1 v2 (missTo rs k).length ((missTo rs k).flatMap RowsInt.encI) ∧ Below W4.heap.size W4 wr) (fun _ i _ => L - (intOf i).toNat)
      case atStart => exact ⟨0, _, rfl, by omega, rfl, World.ownsRow_nil _ _ _ _, Below.refl _ _⟩
      case round =>
        obtain ⟨k, v2, rfl, hk, rfl, hown, hB⟩ := hrel
        have hsz := hB.size
        by_cases hlt : k < L
        · have u0 := HF.out _ hB k hlt
          have hpl := miss_len rs k
          cases hup : hit rs k
          · have HR := Lib.hid (miss_yes hup)
            rw [hup] at u0
            generalize missTo rs k = P at *
            obtain ⟨pl, hpl'⟩ : ∃ pl, pl = P.length := ⟨_, rfl⟩
            have HPL := Lib.hid hpl'
            rw [← hpl'] at hown hpl
            clear hpl' hup
            go_wp2_with (at_builtin; refine wpList_append_own _ rfl _ _ 44 rfl W4.heap.size 3 j0 (.int .i64 0) 1 8 Try.underlying44 JI.out JZ0.out JZ1.out JZ2.out rfl (by decide) _ _ _ rfl (hown.alloc _) ⟨wr.heap.size, 0, none⟩ 1 1 [.int .i64 (k : Int)] rfl rfl (cells_new _ _ _) (by simp [Value.oneCell']) (by unfold maxLen; omega) (by omega) (by simp; omega) ?_)
            intro v' w5 hown' hgrow _
            have B5 := own_step hB (Nat.le_refl _) hgrow (fun k hk => (hown.lt k hk).1)
            have O5 : w5.ownsRow W4.heap.size 3 1 v' (P ++ [(k : Int)]).length ((P ++ [(k : Int)]).flatMap RowsInt.encI) := by
              rw [encI_snoc, List.length_append, ← HPL.out]
              exact hown'
            clear hown' hgrow hown u0
            go_wp2
            go_roundw
            case rel => exact ⟨k + 1, v', rfl, by omega, by go_num, by rw [HR.out]; exact O5, B5⟩
            case measure => simp [intOf]; omega
          · have HR := Lib.hid (miss_no hup)
            rw [hup] at u0
            clear hup
            go_wp2
            go_roundw
            case rel => exact ⟨k + 1, v2, rfl, by omega, by go_num, by rw [HR.out]; exact hown, hB⟩
            case measure => simp [intOf]; omega
        · obtain rfl : k = L := by omega
          have hz4 := HB4.out.size
          go_wp2
          go_ret2
          exact ⟨_, rfl, own_base hown hz4, HB4.out.trans (hB.mono hz4)⟩

end Go.Proofs.Ytgkgdnocleajcaa.Missing
