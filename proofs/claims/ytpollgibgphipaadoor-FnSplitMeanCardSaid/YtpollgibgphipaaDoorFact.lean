/-
  Factorials, binomial numbers and Delta: contracts of the program's and the reference's.
-/
import Derived.Test.YtpollgibgphipaaDoorStrP
import Derived.Test.YtpollgibgphipaaDoorLater
namespace Go.Proofs.YtpollgibgphipaaDoor.Fact
open Go.RowKit Go.Proofs.YtpollgibgphipaaDoor.RatP Go.Proofs.YtpollgibgphipaaDoor.ChoP Go.Proofs.YtpollgibgphipaaDoor.StrP Go.Proofs.YtpollgibgphipaaDoor.Spin Go.Proofs.YtpollgibgphipaaDoor.Row Go.Proofs.YtpollgibgphipaaDoor.Later
set_option linter.unusedVariables false
set_option linter.unusedSimpArgs false

theorem fact_bds : ((List.range 14).all fun k => decide (1 ≤ fact k ∧ fact k ≤ 6227020800 ∧ fact k * (k + 1) = fact (k + 1))) = true := by decide +kernel
theorem fact_bd {k : Nat} (h : k ≤ 13) : 1 ≤ fact k ∧ fact k ≤ 6227020800 ∧ fact k * (k + 1) = fact (k + 1) := by
  have := List.all_eq_true.1 fact_bds k (List.mem_range.2 (by omega))
  exact of_decide_eq_true this


theorem bin_bds : ((List.range 13).all fun n => (List.range 13).all fun k => decide (bin n k ≤ 1000 ∧ (k < n → bin n k * (n - k) / (k + 1) = bin n (k + 1)))) = true := by decide +kernel
theorem bin_bd {n k : Nat} (hn : n ≤ 12) (hk : k ≤ 12) : bin n k ≤ 1000 ∧ (k < n → bin n k * (n - k) / (k + 1) = bin n (k + 1)) :=
  of_decide_eq_true (List.all_eq_true.1 (List.all_eq_true.1 bin_bds n (List.mem_range.2 (by omega))) k (List.mem_range.2 (by omega)))

set_option maxRecDepth 100000 in
set_option maxHeartbeats 1000000 in
theorem sChoose (n k : Int) (w : World) (h0 : 0 ≤ n) (h1 : n ≤ 12) (k0 : -1000 ≤ k) (k1 : k ≤ 1000) :
    Calls Tryd.prog 74 #[.int .i64 n, .int .i64 k] w fun e w' => e = .returned (.int .i64 (choI n k)) ∧ w = w' := by
  have hI := fun W => l6In n 0 40 W
  rw [inB_true.2 ⟨by omega, by omega⟩] at hI
  have HI := Lib.hid hI
  clear hI
  by_cases hk : k < 0 ∨ n < k
  · have HR := Lib.hid (show choI n k = 0 by unfold choI; rw [if_neg (by omega), if_pos hk])
    by_cases hk1 : k < 0
    all_goals
      have hk2 : k < 0 ∨ n < k := hk
      clear hk
      (try have hk3 : n < k := by omega)
      go_enter Tryd.func74, Tryd.ntmps74
      go_wp2_with fail
      (with_reducible refine (HI.out _).mono ?_)
      rintro e w' ⟨rfl, rfl⟩
      go_wp2
      go_ret
      exact ⟨ret_int HR.out.symm, rfl⟩
  · have hk1 : ¬ k < 0 := by omega
    have hk2 : ¬ n < k := by omega
    obtain ⟨N, rfl⟩ := Int.eq_ofNat_of_zero_le h0
    obtain ⟨K, rfl⟩ := Int.eq_ofNat_of_zero_le (show 0 ≤ k by omega)
    have HR := Lib.hid (show choI (N : Int) (K : Int) = (bin N K : Nat) by unfold choI; rw [if_neg (by omega), if_neg hk]; simp)
    have hKN : K ≤ N := by omega
    clear hk
    go_enter Tryd.func74, Tryd.ntmps74
    go_wp2_with fail
    (with_reducible refine (HI.out _).mono ?_)
    rintro e w' ⟨rfl, rfl⟩
    go_wp2
    go_loopw [5, 6] (fun p i wr => ∃ m : Nat, m ≤ K ∧ p = .int .i64 (bin N m : Nat) ∧ i = .int .i64 m ∧ w = wr) (fun _ i _ => K - (intOf i).toNat)
    case atStart => exact ⟨0, by omega, by cases N <;> rfl, rfl, rfl⟩
    case round =>
      obtain ⟨m, hm, rfl, rfl, rfl⟩ := hrel
      by_cases hlt : m < K
      · obtain ⟨b1, b2⟩ := bin_bd (n := N) (k := m) (by omega) (by omega)
        have b2 := b2 (by omega)
        have e : (bin N m : Int) * ((N : Int) - (m : Int)) / ((m : Int) + 1) = (bin N (m + 1) : Nat) := by
          rw [← b2, show (N : Int) - (m : Int) = ((N - m : Nat) : Int) by omega]
          push_cast; rfl
        have b3 : bin N m * (N - m) ≤ 1000 * 12 := Nat.mul_le_mul b1 (by omega)
        have b4 : 0 ≤ (bin N m : Int) * ((N : Int) - (m : Int)) ∧ (bin N m : Int) * ((N : Int) - (m : Int)) ≤ 12000 := by
          rw [show (N : Int) - (m : Int) = ((N - m : Nat) : Int) by omega]
          constructor
          · exact_mod_cast Nat.zero_le _
          · exact_mod_cast b3
        obtain ⟨b5, b6⟩ := b4
        have HE := Lib.hid e
        clear e b2 b3
        go_wp2
        go_roundw
        case rel => exact ⟨m + 1, by omega, by rw [HE.out], by go_num, trivial⟩
        case measure => simp [intOf]; omega
      · obtain rfl : m = K := by omega
        go_wp2
        go_ret
        exact ⟨ret_int HR.out.symm, rfl⟩

end Go.Proofs.YtpollgibgphipaaDoor.Fact
