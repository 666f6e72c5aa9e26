/-
  Contracts of SchemeReach, the program's (a forest) and the reference's (a closure in rounds).
-/
import Derived.Test.YthdmpiioecogpaaMatchBest
import Derived.Test.YthdmpiioecogpaaPlainReach
import Derived.Test.YthdmpiioecogpaaTab
import Derived.Test.YthdmpiioecogpaaRowsBool
import Derived.Test.YthdmpiioecogpaaSchemeLaws
namespace Go.Proofs.Ythdmpiioecogpaa.Reach
open Go.RowKit Go.Proofs.Ythdmpiioecogpaa.Spin Go.Proofs.Ythdmpiioecogpaa.Row Go.Proofs.Ythdmpiioecogpaa.Plain Go.Proofs.Ythdmpiioecogpaa.Later Go.Proofs.Ythdmpiioecogpaa.Node Go.Proofs.Ythdmpiioecogpaa.Line Go.Proofs.Ythdmpiioecogpaa.LinesFn Go.Proofs.Ythdmpiioecogpaa.LinesS Go.Proofs.Ythdmpiioecogpaa.LinesP Go.Proofs.Ythdmpiioecogpaa.MatchBest Go.Proofs.Ythdmpiioecogpaa.Tab Go.Proofs.Ythdmpiioecogpaa.SchemeLaws
set_option linter.unusedVariables false
set_option linter.unusedSimpArgs false

def reachOf (ns : List Nd) : List Bool := if schemeOk ns = true then (List.range ns.length).map (reach ns) else []
theorem reach_yes {ns : List Nd} (h : schemeOk ns = true) : reachOf ns = (List.range ns.length).map (reach ns) := by simp [reachOf, h]
theorem reach_no {ns : List Nd} (h : schemeOk ns = false) : reachOf ns = [] := by simp [reachOf, h]
theorem reach_len (ns : List Nd) : (reachOf ns).length ≤ 12 := by
  cases h : schemeOk ns
  · rw [reach_no h]; simp
  · rw [reach_yes h]; have := (scheme_parts h).2.1; simp; omega
theorem reach_cells {ns : List Nd} (h : schemeOk ns = true) : (reachOf ns).length = ns.length ∧ (reachOf ns).flatMap RowsBool.encB = tab ns.length (fun i => .bool (reach ns i)) := by
  rw [reach_yes h]
  exact ⟨by simp, tab_flat Value.bool _ (fun _ => rfl) _ _⟩

/-! ### the closure, round by round -/
def Inv (ns : List Nd) (S0 S : Nat → Bool) (i k : Nat) : Prop :=
  (∀ j, j < ns.length → S0 j = true → S j = true) ∧ Flags ns S ∧ ∀ i' k', i' < ns.length → k' < ns.length → (i' < i ∨ (i' = i ∧ k' < k)) → S0 k' = true → allow (nth ns i') (nth ns k') = true → S i' = true
def Round (ns : List Nd) (S : Nat → Bool) (r : Nat) : Prop := Flags ns S ∧ (Closed ns S ∨ r + 1 ≤ cnt S ns.length)
def setB (S : Nat → Bool) (i : Nat) : Nat → Bool := fun j => if j = i then true else S j
theorem round_zero {ns : List Nd} (hs : schemeOk ns = true) : Round ns (setB (fun _ => false) 0) 0 := by
  have h1 := (scheme_parts hs).1
  refine ⟨⟨by simp [setB], fun i hi h => ?_⟩, .inr ?_⟩
  · by_cases e : i = 0
    · subst e; exact reach_zero ns
    · simp [setB, e] at h
  · have h2 : cnt (fun _ => false) ns.length < cnt (setB (fun _ => false) 0) ns.length := cnt_lt (k := 0) (fun i _ h => by cases h) (by omega) rfl (by simp [setB])
    omega
theorem inv_start {ns : List Nd} {S : Nat → Bool} (h : Flags ns S) : Inv ns S S 0 0 := ⟨fun _ _ h => h, h, fun i' k' _ _ g => by omega⟩
theorem inv_next {ns : List Nd} {S0 S : Nat → Bool} {i : Nat} (h : Inv ns S0 S i ns.length) : Inv ns S0 S (i + 1) 0 :=
  ⟨h.1, h.2.1, fun i' k' h1 h2 g => h.2.2 i' k' h1 h2 (by omega)⟩
theorem inv_yes {ns : List Nd} (hs : schemeOk ns = true) {S0 S : Nat → Bool} {i k : Nat} (h : Inv ns S0 S i k) (hi : i < ns.length) (hk : k < ns.length) (h1 : S k = true) (h2 : allow (nth ns i) (nth ns k) = true) : Inv ns S0 (setB S i) i (k + 1) := by
  have hup : ∀ j, S j = true → setB S i j = true := fun j hj => by unfold setB; split <;> simp_all
  refine ⟨fun j hj g => hup j (h.1 j hj g), ⟨hup 0 h.2.1.1, fun j hj g => ?_⟩, fun i' k' a b c d e => ?_⟩
  · by_cases e : j = i
    · subst e; rw [reach_allow hs hi hk h2]; exact h.2.1.2 k hk h1
    · exact h.2.1.2 j hj (by simpa [setB, e] using g)
  · by_cases ei : i' = i
    · simp [setB, ei]
    · exact hup _ (h.2.2 i' k' a b (by omega) d e)
theorem inv_no {ns : List Nd} {S0 S : Nat → Bool} {i k : Nat} (h : Inv ns S0 S i k) (hk : k < ns.length) (hno : S k = true → allow (nth ns i) (nth ns k) = true → False) : Inv ns S0 S i (k + 1) := by
  refine ⟨h.1, h.2.1, fun i' k' a b c d e => ?_⟩
  by_cases g : i' < i ∨ (i' = i ∧ k' < k)
  · exact h.2.2 i' k' a b g d e
  · obtain ⟨rfl, rfl⟩ : i' = i ∧ k' = k := by omega
    exact absurd e (fun e => hno (h.1 _ hk d) e)
theorem round_next {ns : List Nd} (hs : schemeOk ns = true) {S0 S : Nat → Bool} {r : Nat} (h0 : Round ns S0 r) (h : Inv ns S0 S ns.length 0) : Round ns S (r + 1) := by
  refine ⟨h.2.1, ?_⟩
  by_cases hx : ∃ j, j < ns.length ∧ S j = true ∧ S0 j = false
  · obtain ⟨j, hj, h1, h2⟩ := hx
    rcases h0.2 with hc | hc
    · have := closed_reach hs h0.1.1 hc h0.1.2 j hj
      rw [h.2.1.2 j hj h1, h2] at this
      cases this
    · have := cnt_lt h.1 hj h2 h1
      exact .inr (by omega)
  · have heq : ∀ j, j < ns.length → S j = true → S0 j = true := fun j hj g => by
      cases g2 : S0 j
      · exact absurd ⟨j, hj, g, g2⟩ hx
      · rfl
    exact .inl (fun i k hi hk g e => h.2.2 i k hi hk (.inl hi) (heq k hk g) e)
theorem round_end {ns : List Nd} (hs : schemeOk ns = true) {S : Nat → Bool} (h : Round ns S ns.length) : ∀ i, i < ns.length → S i = reach ns i := by
  rcases h.2 with hc | hc
  · exact closed_reach hs h.1.1 hc h.1.2
  · have := cnt_le S ns.length
    omega
theorem setB_cells (n : Nat) (S : Nat → Bool) (i : Nat) : tab n (updV (fun j => .bool (S j)) i (.bool true)) = tab n (fun j => .bool (setB S i j)) := tab_congr (fun j _ => by unfold updV setB; split <;> rfl)

set_option maxRecDepth 100000 in
set_option maxHeartbeats 4000000 in
theorem sSchemeReach (ns : List Nd) (v : Value) (w : World) (hs : Sees w 3 v ns.length (ns.flatMap encN)) :
    Calls Try.prog 15 #[v] w (GivesRow 4 1 (reachOf ns).length ((reachOf ns).flatMap RowsBool.encB) w) := by
  have HV := Lib.hid (fun r (h : schemeOk ns = r) => svalid_is h hs)
  cases hok : schemeOk ns
  · have HE := Lib.hid (reach_no hok)
    have HC := Lib.hid (HV.out _ hok)
    clear hok HV hs
    go_enter Try.func15, Try.ntmps15
    go_wp2_with fail
    refine HC.out.mono ?_
    rintro e w1 ⟨rfl, b1⟩
    have h := World.ownsRow_lit (base := w.heap.size) (e := 4) (size := 1) w1 #[] 0 (by have := b1.size; simpa using this) (by decide) rfl
    clear HC
    go_wp2
    go_ret
    exact ⟨_, rfl, by rw [HE.out]; simpa using h, b1.alloc b1.size _⟩
  · have HE := Lib.hid (reach_cells hok)
    have HC := Lib.hid (HV.out _ hok)
    have hn1 := (scheme_parts hok).1
    have hn2 := (scheme_parts hok).2.1
    have HBD := Lib.hid (fun i (hi : i < ns.length) => (nd_bounds hok hi).2)
    have HOK := Lib.hid hok
    obtain ⟨n, hn⟩ : ∃ n, n = ns.length := ⟨_, rfl⟩
    have HN := Lib.hid hn
    rw [← hn] at hn1 hn2 hs
    rcases hs.2 with ⟨h0, _⟩ | ⟨b, o, c, rfl, hnc, hcm, hb, hcell⟩
    · omega
    unfold maxLen at hcm
    have HCN := Lib.hid (fun (W : World) (h : Below w.heap.size w W) (k : Nat) (hk : k < n) => node_cells (w := W) (ns := ns) (b := b) (o := o) (fun j hj => (h.cell (p := ⟨b, o + j, none⟩) hb).trans (hcell j (by have := HN.out; omega))) k (by have := HN.out; omega))
    clear hok HV hs hcell hn
    obtain ⟨i0, hi, hz0, hz1, hz2⟩ := info_parts infoBool
    have HI := Lib.hid hi
    have HZ0 := Lib.hid hz0
    have HZ1 := Lib.hid hz1
    have HZ2 := Lib.hid hz2
    clear hi hz0 hz1 hz2
    have hn2' : (n : Int) ≤ 12 := by omega
    go_enter Try.func15, Try.ntmps15
    go_wp2_with fail
    refine HC.out.mono ?_
    rintro e w1 ⟨rfl, b1⟩
    have hz1 := b1.size
    clear HC
    go_wp2_with (at_make; refine wpList_make_full _ rfl _ _ 25 rfl w1.heap.size 4 i0 (.bool false) 1 Try.underlying25 HI.out HZ0.out HZ1.out .i64 .i64 _ _ n rfl rfl rfl rfl (by rw [HZ2.out]; omega) (by unfold maxLen; omega) (Nat.le_refl _) ?_; intro w2 hown2 hgrow2; rw [show (Value.bool false).cells = #[Value.bool false] from rfl, tab_made] at hown2; have hF := fun j => hown2.frozenAt j; have hnp : 0 < n := (by omega); have x0 : w2.cell? ⟨w1.heap.size, 0, none⟩ = some (.bool false) := (hown2.cellAt 0 (by omega)).trans (tab_get _ hnp))
    have B2 : Below w1.heap.size w1 w2 := (Below.refl w1.heap.size w1).grown hgrow2 (Nat.le_refl _) (fun j hj => by cases hj)
    obtain ⟨o1, g1⟩ := hown2.stored 0 (.bool true)
    rw [tab_set, setB_cells n (fun _ => false)] at o1
    have O3 := Lib.hid o1
    have B3 := Lib.hid (below_only B2 g1 B2.size (fun k hk => by injection hk with hk; omega))
    have HB1 := Lib.hid b1
    obtain ⟨g, hg⟩ : ∃ g, g = w1.heap.size := ⟨_, rfl⟩
    have HG := Lib.hid hg
    have hgl : w1.heap.size ≤ g := by omega
    have hgb : b < g := by omega
    rw [← hg] at O3 B3 ⊢
    clear hgrow2 hg o1 g1 hown2 B2 b1 hF x0
    go_loopw [4] (fun i wr => ∃ (r : Nat) (S : Nat → Bool), r ≤ n ∧ i = .int .i64 r ∧ wr.ownsRow g 4 1 (.slice (some ⟨g, 0, none⟩) n n) n (tab n (fun j => .bool (S j))) ∧ Below w1.heap.size w1 wr ∧ Hid (Round ns S r)) (fun i _ => n - (intOf i).toNat)
    case atStart => exact ⟨0, _, by omega, rfl, O3.out, B3.out.mono hgl, Lib.hid (round_zero HOK.out)⟩
    case round =>
      obtain ⟨r, S0, hr, rfl, hown, hB, hR⟩ := hrel
      by_cases hlt : r < n
      · go_wp2
        go_loopw [5] (fun i wr => ∃ (k : Nat) (S : Nat → Bool), k ≤ n ∧ i = .int .i64 k ∧ wr.ownsRow g 4 1 (.slice (some ⟨g, 0, none⟩) n n) n (tab n (fun j => .bool (S j))) ∧ Below w1.heap.size w1 wr ∧ Hid (Inv ns S0 S k 0)) (fun i _ => n - (intOf i).toNat)
        case atStart => exact ⟨0, S0, by omega, rfl, hown, hB, Lib.hid (inv_start hR.out.1)⟩
        case round =>
          obtain ⟨k, S1, hk, rfl, hown, hB, hV⟩ := hrel
          by_cases hltk : k < n
          · go_wp2
            go_loopw [6] (fun i wr => ∃ (m : Nat) (S : Nat → Bool), m ≤ n ∧ i = .int .i64 m ∧ wr.ownsRow g 4 1 (.slice (some ⟨g, 0, none⟩) n n) n (tab n (fun j => .bool (S j))) ∧ Below w1.heap.size w1 wr ∧ Hid (Inv ns S0 S k m)) (fun i _ => n - (intOf i).toNat)
            case atStart => exact ⟨0, S1, by omega, rfl, hown, hB, hV⟩
            case round =>
              obtain ⟨m, S, hm, rfl, hown, hB, hV⟩ := hrel
              have hszr := hB.size
              by_cases hltm : m < n
              · obtain ⟨c0, c1, c2⟩ := HCN.out wr (HB1.out.trans (hB.mono hz1)) k hltk
                obtain ⟨d0, d1, d2⟩ := HCN.out wr (HB1.out.trans (hB.mono hz1)) m hltm
                have hgw : g < wr.heap.size := (hown.lt g rfl).2
                have hbw : b < wr.heap.size := by omega
                have u0 : wr.cell? ⟨g, m, none⟩ = some (.bool (S m)) := (hown.cellAt m (by omega)).trans (tab_get _ hltm)
                have hkl : k < ns.length := by have := HN.out; omega
                have hml : m < ns.length := by have := HN.out; omega
                have HY := Lib.hid (fun h1 h2 => inv_yes HOK.out hV.out hkl hml h1 h2)
                have HNO := Lib.hid (fun h => inv_no hV.out hml h)
                have hbx := HBD.out k hkl
                have hby := HBD.out m hml
                have hk0 : (0 : Int) ≤ (k : Int) := by omega
                have hk1 : (k : Int) < (n : Int) := by omega
                have hm0 : (0 : Int) ≤ (m : Int) := by omega
                have hm1 : (m : Int) < (n : Int) := by omega
                generalize nth ns k = X at *
                generalize nth ns m = Y at *
                have ha := fun W => l31Allowed X Y W hbx hby
                cases hS : S m
                · have HI2 := Lib.hid (HNO.out (fun h => by rw [hS] at h; cases h))
                  rw [hS] at u0
                  clear HY HNO hV ha hS
                  go_wp2_with fail
                  have f6 : ∀ p : Later wr.heap.size wr, p.W.cell? ⟨g, m, none⟩ = some (.bool false) := Later.cell u0 hgw
                  refine Later.wp_region_later (wr.heap.size) (by kernel_rfl) (by kernel_rfl) ?_
                  repeat (first | go_big_quiet_step ((fail)) | quiet_step ((fail)))
                  refine wpQuiet_nil ?_
                  rintro w4 ⟨q4, hq4⟩
                  have b4 := q4.h
                  rw [← hq4] at b4
                  clear hq4 q4
                  have B4 := hB.trans (b4.mono hszr)
                  have O4 := own_below hown b4 (Nat.le_refl _)
                  clear f6 b4 c0 c1 c2 d0 d1 d2 u0 hown hB
                  go_wp2
                  go_roundw
                  case rel => exact ⟨m + 1, S, by omega, by go_num, O4, B4, HI2⟩
                  case measure => simp [intOf]; omega
                · rw [hS] at u0
                  cases hal : allow X Y
                  · have HI2 := Lib.hid (HNO.out (fun _ h => by rw [hal] at h; cases h))
                    rw [hal] at ha
                    have HA := Lib.hid ha
                    clear HY HNO hV ha hS hal
                    go_wp2_with fail
                    have f0 : ∀ p : Later wr.heap.size wr, p.W.cell? ⟨b, o + k * 3, none⟩ = some (.int .i64 X.e) := Later.cell c0 hbw
                    have f1 : ∀ p : Later wr.heap.size wr, p.W.cell? ⟨b, o + k * 3 + 1, none⟩ = some (.int .i64 X.j) := Later.cell c1 hbw
                    have f2 : ∀ p : Later wr.heap.size wr, p.W.cell? ⟨b, o + k * 3 + 2, none⟩ = some (.bool X.o) := Later.cell c2 hbw
                    have f3 : ∀ p : Later wr.heap.size wr, p.W.cell? ⟨b, o + m * 3, none⟩ = some (.int .i64 Y.e) := Later.cell d0 hbw
                    have f4 : ∀ p : Later wr.heap.size wr, p.W.cell? ⟨b, o + m * 3 + 1, none⟩ = some (.int .i64 Y.j) := Later.cell d1 hbw
                    have f5 : ∀ p : Later wr.heap.size wr, p.W.cell? ⟨b, o + m * 3 + 2, none⟩ = some (.bool Y.o) := Later.cell d2 hbw
                    have f6 : ∀ p : Later wr.heap.size wr, p.W.cell? ⟨g, m, none⟩ = some (.bool true) := Later.cell u0 hgw
                    refine Later.wp_region_later (wr.heap.size) (by kernel_rfl) (by kernel_rfl) ?_
                    repeat (first | go_big_quiet_step ((go_at_call 49; exact later_gives (by omega) (HA.out _))) | quiet_step ((go_at_call 49; exact later_gives (by omega) (HA.out _))))
                    refine wpQuiet_nil ?_
                    rintro w4 ⟨q4, hq4⟩
                    have b4 := q4.h
                    rw [← hq4] at b4
                    clear hq4 q4
                    have B4 := hB.trans (b4.mono hszr)
                    have O4 := own_below hown b4 (Nat.le_refl _)
                    clear f0 f1 f2 f3 f4 f5 f6 b4 c0 c1 c2 d0 d1 d2 u0 hown hB HA
                    go_wp2
                    go_roundw
                    case rel => exact ⟨m + 1, S, by omega, by go_num, O4, B4, HI2⟩
                    case measure => simp [intOf]; omega
                  · have HI2 := Lib.hid (HY.out hS hal)
                    rw [hal] at ha
                    have HA := Lib.hid ha
                    clear HY HNO hV ha hS hal
                    go_wp2_with fail
                    have f0 : ∀ p : Later wr.heap.size wr, p.W.cell? ⟨b, o + k * 3, none⟩ = some (.int .i64 X.e) := Later.cell c0 hbw
                    have f1 : ∀ p : Later wr.heap.size wr, p.W.cell? ⟨b, o + k * 3 + 1, none⟩ = some (.int .i64 X.j) := Later.cell c1 hbw
                    have f2 : ∀ p : Later wr.heap.size wr, p.W.cell? ⟨b, o + k * 3 + 2, none⟩ = some (.bool X.o) := Later.cell c2 hbw
                    have f3 : ∀ p : Later wr.heap.size wr, p.W.cell? ⟨b, o + m * 3, none⟩ = some (.int .i64 Y.e) := Later.cell d0 hbw
                    have f4 : ∀ p : Later wr.heap.size wr, p.W.cell? ⟨b, o + m * 3 + 1, none⟩ = some (.int .i64 Y.j) := Later.cell d1 hbw
                    have f5 : ∀ p : Later wr.heap.size wr, p.W.cell? ⟨b, o + m * 3 + 2, none⟩ = some (.bool Y.o) := Later.cell d2 hbw
                    have f6 : ∀ p : Later wr.heap.size wr, p.W.cell? ⟨g, m, none⟩ = some (.bool true) := Later.cell u0 hgw
                    refine Later.wp_region_later (wr.heap.size) (by kernel_rfl) (by kernel_rfl) ?_
                    repeat (first | go_big_quiet_step ((go_at_call 49; exact later_gives (by omega) (HA.out _))) | quiet_step ((go_at_call 49; exact later_gives (by omega) (HA.out _))))
                    refine wpQuiet_nil ?_
                    rintro w4 ⟨q4, hq4⟩
                    have b4 := q4.h
                    rw [← hq4] at b4
                    clear hq4 q4
                    have B4 := hB.trans (b4.mono hszr)
                    have O4 := own_below hown b4 (Nat.le_refl _)
                    have hF := fun j => O4.frozenAt j
                    have x0 : w4.cell? ⟨g, k, none⟩ = some (.bool (S k)) := (O4.cellAt k (by omega)).trans (tab_get _ hltk)
                    obtain ⟨o5, g5⟩ := O4.stored k (.bool true)
                    rw [tab_set, setB_cells n S] at o5
                    have O5 := Lib.hid o5
                    have B5 := Lib.hid (below_only B4 g5 B4.size (fun k hk => by injection hk with hk; omega))
                    clear f0 f1 f2 f3 f4 f5 f6 b4 c0 c1 c2 d0 d1 d2 u0 hown hB HA o5 g5 O4 B4
                    go_wp2
                    go_roundw
                    case rel => exact ⟨m + 1, _, by omega, by go_num, O5.out, B5.out, HI2⟩
                    case measure => simp [intOf]; omega
              · obtain rfl : m = n := by omega
                have HI2 := Lib.hid (inv_next (by rw [← HN.out]; exact hV.out))
                go_wp2
                go_roundw
                case rel => exact ⟨k + 1, S, by omega, by go_num, hown, hB, HI2⟩
                case measure => simp [intOf]; omega
          · obtain rfl : k = n := by omega
            have HI2 := Lib.hid (round_next HOK.out hR.out (by rw [← HN.out]; exact hV.out))
            go_wp2
            go_roundw
            case rel => exact ⟨r + 1, S1, by omega, by go_num, hown, hB, HI2⟩
            case measure => simp [intOf]; omega
      · obtain rfl : r = n := by omega
        have hend := round_end HOK.out (by rw [← HN.out]; exact hR.out)
        have HT := Lib.hid (show tab r (fun j => .bool (S0 j)) = tab r (fun j => .bool (reach ns j)) from tab_congr (fun i hi => by rw [hend i (by have := HN.out; omega)]))
        clear hend
        go_wp2
        go_ret
        exact ⟨_, rfl, by rw [HE.out.1, HE.out.2, ← HN.out, ← HT.out]; exact own_base hown (by omega), HB1.out.trans (hB.mono hz1)⟩

end Go.Proofs.Ythdmpiioecogpaa.Reach
