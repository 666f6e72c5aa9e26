/-
  Contract of the program's Choose.
-/
import Derived.Test.YtpollgibgphipaaDoorCgS
import Derived.Test.YtpollgibgphipaaDoorTab
import Derived.Test.YtpollgibgphipaaDoorCoupled
import Derived.RegionTactic
namespace Go.Proofs.YtpollgibgphipaaDoor.ChoI
open Go.RowKit Go.Proofs.YtpollgibgphipaaDoor.RatP Go.Proofs.YtpollgibgphipaaDoor.ChoP Go.Proofs.YtpollgibgphipaaDoor.Fact Go.Proofs.YtpollgibgphipaaDoor.Spin Go.Proofs.YtpollgibgphipaaDoor.Row Go.Proofs.YtpollgibgphipaaDoor.Coupled Go.Proofs.YtpollgibgphipaaDoor.Later Go.Proofs.YtpollgibgphipaaDoor.Tab
set_option linter.unusedVariables false
set_option linter.unusedSimpArgs false

theorem own_form (w : World) (base : Nat) (e : TypeId) (k : Nat) (v : Value) (n : Nat) (cs : List Value) (h : w.ownsRow base e k v n cs) (hn : 0 < n) : ∃ g c, v = .slice (some ⟨g, 0, none⟩) n c ∧ base ≤ g ∧ g < w.heap.size ∧ n ≤ c ∧ c ≤ maxLen := by
  rcases h.2 with ⟨rfl, h0⟩ | ⟨g, c, cur, rfl, hb, hg, hn, hm, _, _⟩
  · omega
  · exact ⟨g, c, rfl, hb, lt_of_block hg, hn, hm⟩
def lenV : Value → Nat
  | .slice _ n _ => n
  | _ => 0
theorem tab_succ (n : Nat) (f : Nat → Value) : tab (n + 1) f = tab n f ++ [f n] := by simp [tab, List.range_succ]
def binV (L j : Nat) : Value := .int .i64 (bin L j : Nat)
def mixV (L m j : Nat) : Value := .int .i64 ((if m < j then bin (L + 1) j else bin L j : Nat) : Int)
theorem bin_over (n k : Nat) (h : n < k) : bin n k = 0 := by
  induction n generalizing k with
  | zero => cases k with
    | zero => omega
    | succ k => rfl
  | succ n ih => cases k with
    | zero => omega
    | succ k =>
      show bin n k + bin n (k + 1) = 0
      rw [ih k (by omega), ih (k + 1) (by omega)]
theorem mix_start (L : Nat) : tab (L + 1) (binV L) ++ [.int .i64 0] = tab (L + 1 + 1) (mixV L (L + 1)) := by
  rw [tab_succ (L + 1)]
  congr 1
  · exact tab_congr fun i hi => by unfold binV mixV; rw [if_neg (by omega)]
  · unfold mixV
    rw [if_neg (by omega), bin_over L (L + 1) (by omega)]; rfl
theorem mix_end (L : Nat) : tab (L + 1 + 1) (mixV L 0) = tab (L + 1 + 1) (binV (L + 1)) := tab_congr fun i hi => by
  unfold binV mixV
  by_cases h : 0 < i
  · rw [if_pos h]
  · obtain rfl : i = 0 := by omega
    rw [if_neg (by omega)]
    cases L <;> rfl
theorem mix_step (L p : Nat) (hp : p + 1 ≤ L + 1) : tab (L + 1 + 1) (updV (mixV L (p + 1)) (p + 1) (.int .i64 ((bin L (p + 1) : Int) + (bin L p : Int)))) = tab (L + 1 + 1) (mixV L p) := tab_congr fun i hi => by
  unfold updV mixV
  by_cases h : i = p + 1
  · subst h
    rw [if_pos rfl, if_pos (by omega)]
    show Value.int .i64 _ = Value.int .i64 ((bin L p + bin L (p + 1) : Nat) : Int)
    congr 1
    push_cast
    omega
  · rw [if_neg h]
    by_cases h2 : p < i
    · rw [if_pos h2, if_pos (by omega)]
    · rw [if_neg h2, if_neg (by omega)]
theorem mix_at (L p : Nat) : mixV L (p + 1) (p + 1) = .int .i64 (bin L (p + 1) : Nat) ∧ mixV L (p + 1) p = .int .i64 (bin L p : Nat) := by
  unfold mixV
  rw [if_neg (by omega), if_neg (by omega)]
  exact ⟨rfl, rfl⟩

set_option maxRecDepth 100000 in
set_option maxHeartbeats 4000000 in
theorem iChoose (n k : Int) (w : World) (h0 : 0 ≤ n) (h1 : n ≤ 12) (k0 : -1000 ≤ k) (k1 : k ≤ 1000) :
    Calls Tryd.prog 51 #[.int .i64 n, .int .i64 k] w (Gives (.int .i64 (choI n k)) w) := by
  by_cases hk : k < 0 ∨ n < k
  · have HR := Lib.hid (show choI n k = 0 by unfold choI; rw [if_neg (by omega), if_pos hk])
    by_cases hk1 : k < 0
    all_goals
      (try have hk3 : n < k := by omega)
      clear hk
      go_enter Tryd.func51, Tryd.ntmps51
      go_wp2
      go_ret
      exact ⟨ret_int HR.out.symm, (by repeat (first | (with_reducible refine Below.drew ?_) | (with_reducible refine below_drewN ?_ _) | (with_reducible refine Below.alloc ?_ ?_ _) | (with_reducible refine Below.setCell ?_ ?_ _) | (with_reducible assumption) | (with_reducible exact Below.refl _ _) | omega | (simp <;> omega)))⟩
  · have hk1 : ¬ k < 0 := by omega
    have hk2 : ¬ n < k := by omega
    obtain ⟨N, rfl⟩ := Int.eq_ofNat_of_zero_le h0
    obtain ⟨K, rfl⟩ := Int.eq_ofNat_of_zero_le (show 0 ≤ k by omega)
    have HR := Lib.hid (show choI (N : Int) (K : Int) = (bin N K : Nat) by unfold choI; rw [if_neg (by omega), if_neg hk]; simp)
    have hKN : K ≤ N := by omega
    have hN : N ≤ 12 := by omega
    obtain ⟨i0, hi, hz0, hz1, hz2⟩ := info_parts Tab.infoInt
    have HI := Lib.hid hi
    have HZ0 := Lib.hid hz0
    have HZ1 := Lib.hid hz1
    have HZ2 := Lib.hid hz2
    have HO := Lib.hid (World.ownsRow_lit (base := w.heap.size) (e := 3) (size := 1) w #[.int .i64 1] 1 (Nat.le_refl _) (by decide) rfl)
    clear hk hi hz0 hz1 hz2
    go_enter Tryd.func51, Tryd.ntmps51
    go_wp2
    go_loopw [5] (fun u wr => ∃ (L : Nat) (v : Value), v = u ∧ L ≤ N ∧ wr.ownsRow w.heap.size 3 1 v (L + 1) (tab (L + 1) (binV L)) ∧ Below w.heap.size w wr) (fun u _ => N + 1 - lenV u)
    case atStart => exact ⟨0, _, rfl, by omega, HO.out, (by repeat (first | (with_reducible refine Below.drew ?_) | (with_reducible refine below_drewN ?_ _) | (with_reducible refine Below.alloc ?_ ?_ _) | (with_reducible refine Below.setCell ?_ ?_ _) | (with_reducible assumption) | (with_reducible exact Below.refl _ _) | omega | (simp <;> omega)))⟩
    case round =>
      obtain ⟨L, v, rfl, hL, hown, hB⟩ := hrel
      have hsz := hB.size
      obtain ⟨g, c, rfl, hg1, hg2, hgc, hgm⟩ := own_form _ _ _ _ _ _ _ hown (by omega)
      unfold maxLen at hgm
      obtain ⟨wo, rfl⟩ : ∃ wo : World, wo = wr := ⟨_, rfl⟩
      by_cases hlt : L + 1 ≤ N
      · have hltI : (L : Int) + 1 ≤ (N : Int) := by omega
        go_wp2_with (at_builtin; refine wpList_append_own _ rfl _ _ 64 rfl w.heap.size 3 i0 (.int .i64 0) 1 8 Tryd.underlying64 HI.out HZ0.out HZ1.out HZ2.out rfl (by decide) _ _ _ rfl (hown.alloc _) ⟨wo.heap.size, 0, none⟩ 1 1 [.int .i64 0] rfl rfl (cells_new _ _ _) (by simp [Value.oneCell']) (by unfold maxLen; omega) (by omega) (by simp; omega) ?_)
        intro v' w2 hown' hgrow _
        have B2 := own_step hB (Nat.le_refl _) hgrow (fun k hk => (hown.lt k hk).1)
        have O2 : w2.ownsRow w.heap.size 3 1 v' (L + 1 + 1) (tab (L + 1 + 1) (mixV L (L + 1))) := by
          rw [← mix_start]
          exact hown'
        clear hown' hgrow hown
        obtain ⟨g2, c2, rfl, hg21, hg22, hgc2, hgm2⟩ := own_form _ _ _ _ _ _ _ O2 (by omega)
        unfold maxLen at hgm2
        have HO2 := Lib.hid O2
        have HB2 := Lib.hid B2
        clear O2 B2 hB hsz
        go_wp2
        go_loopw [6] (fun i wr => ∃ m : Nat, m ≤ L + 1 ∧ i = .int .i64 m ∧ wr.ownsRow w.heap.size 3 1 (.slice (some ⟨g2, 0, none⟩) (L + 1 + 1) c2) (L + 1 + 1) (tab (L + 1 + 1) (mixV L m)) ∧ Below w.heap.size w wr) (fun i _ => (intOf i).toNat)
        case atStart => exact ⟨L + 1, by omega, by go_num, HO2.out, HB2.out⟩
        case round =>
          obtain ⟨m, hm, rfl, hown, hB⟩ := hrel
          by_cases hm0 : m = 0
          · subst hm0
            rw [mix_end] at hown
            go_wp2
            go_roundw
            case rel => exact ⟨L + 1, _, rfl, by omega, hown, hB⟩
            case measure => simp [lenV]; omega
          · obtain ⟨p, rfl⟩ : ∃ p, m = p + 1 := ⟨m - 1, by omega⟩
            obtain ⟨q1, q2⟩ := mix_at L p
            have x0 : wr.cell? ⟨g2, p + 1, none⟩ = some (.int .i64 (bin L (p + 1) : Nat)) := (hown.cellAt (p + 1) (by omega)).trans ((tab_get _ (by omega)).trans (by rw [q1]))
            have x1 : wr.cell? ⟨g2, p, none⟩ = some (.int .i64 (bin L p : Nat)) := (hown.cellAt p (by omega)).trans ((tab_get _ (by omega)).trans (by rw [q2]))
            have b1 := (bin_bd (n := L) (k := p + 1) (by omega) (by omega)).1
            have b2 := (bin_bd (n := L) (k := p) (by omega) (by omega)).1
            have f0 := hown.frozenAt (p + 1)
            obtain ⟨o1, g1⟩ := hown.stored (p + 1) (.int .i64 ((bin L (p + 1) : Int) + (bin L p : Int)))
            rw [tab_set, mix_step L p hm] at o1
            have OO := Lib.hid o1
            have BB := Lib.hid (hB.grown g1 hB.size (fun k hk => (hown.lt k hk).1))
            have hp1 : (p : Int) + 1 < (L : Int) + 1 + 1 := by omega
            have hp2 : (p : Int) < (L : Int) + 1 + 1 := by omega
            generalize bin L (p + 1) = A at *
            generalize bin L p = B at *
            clear o1 g1 hown hB q1 q2
            go_wp2_with fail
            go_region
            go_wp2
            go_roundw
            case rel => exact ⟨p, by omega, by go_num, OO.out, BB.out.drew⟩
            case measure => simp [intOf]
      · obtain rfl : L = N := by omega
        have x0 : wo.cell? ⟨g, K, none⟩ = some (.int .i64 (bin L K : Nat)) := (hown.cellAt K (by omega)).trans (tab_get _ (by omega))
        have hltI : ¬ (L : Int) + 1 ≤ (L : Int) := by omega
        have hK1 : (K : Int) < (L : Int) + 1 := by omega
        clear hown
        go_wp2
        go_ret
        exact ⟨ret_int HR.out.symm, hB⟩
end Go.Proofs.YtpollgibgphipaaDoor.ChoI
