/-
  The program's iterator over projections: what it hands to a loop's body.
-/
import Derived.Test.YtpollgibgphipaaDoorFacP
import Derived.Test.YtpollgibgphipaaDoorCoupled
import Derived.RangeFuncNested
import Derived.RangeFuncLeaves
import Derived.RangeFuncBox
import Derived.Shelf.Abstract
import Derived.WalkKit
import Derived.OwnWalkIn
import Derived.TacticsInMore
import Derived.LoopNIn
import Derived.LoopIn
namespace Go.Proofs.YtpollgibgphipaaDoor.ProjI
open Go.RowKit Go.Shelf Go.Proofs.YtpollgibgphipaaDoor.SplitP Go.Proofs.YtpollgibgphipaaDoor.Fac Go.Proofs.YtpollgibgphipaaDoor.Coupled
set_option linter.unusedVariables false
set_option linter.unusedSimpArgs false
attribute [local go_sem] Oper.semAt_some

/-- what a round that goes on keeps: what lay below n₀, and the iterator's own box -/
def KB (Bn n₀ : Nat) (A B : World) : Prop := Below n₀ A B ∧ ∀ t v, Boxed A Bn t v → Boxed B Bn t v
theorem KB_t {Bn n₀ : Nat} {A B C : World} (h1 : KB Bn n₀ A B) (h2 : KB Bn n₀ B C) : KB Bn n₀ A C := ⟨belowK_t h1.1 h2.1, fun t v h => h2.2 t v (h1.2 t v h)⟩
theorem KB_b {Bn n₀ : Nat} {w : World} (hn : n₀ ≤ w.heap.size) (W : World) (l : Nat) (o o' : Obj) (hl : w.heap.size ≤ l) (h : W.heap[l]? = some o) (hc : o.isCells = false) (hw : o.isWalk = false) : KB Bn n₀ W (W.putObj l o') :=
  ⟨belowK_b hn W l o o' hl h hc hw, fun t v hb => hb.kept (grownBy_putObj' W l o') (by
    intro e
    injection e with e
    subst e
    rw [show W.heap[Bn]? = _ from hb] at h
    cases h
    cases hc)⟩
/-- a projection -/
abbrev PJ (J : Nat) := { u : Int // u ∈ proj (J : Int) }
def projA (J : Nat) : List (PJ J) := (proj (J : Int)).attach
theorem projA_len (J : Nat) : (projA J).length = J + 1 := by
  unfold projA
  rw [List.length_attach]
  have := proj_len (j := (J : Int)) (by omega)
  omega
theorem projA_map (J : Nat) : (projA J).map (·.1) = proj (J : Int) := by unfold projA; simp
theorem projA_at (J k : Nat) (h : k < (projA J).length) : ((projA J)[k]).1 = -(J : Int) + 2 * (k : Int) := by
  have h2 : k < (proj (J : Int)).length := by unfold projA at h; simpa using h
  have e : ((projA J)[k]).1 = (proj (J : Int))[k] := congrArg Subtype.val (List.getElem_attach (xs := proj (J : Int)) (i := k) (by unfold projA at h; exact h))
  rw [e]
  exact proj_at (by omega) h2

set_option maxRecDepth 100000 in
set_option maxHeartbeats 2000000 in
theorem proj1_in (F : Fence) (n : Nat) (h6 : F.fn 47) (hro : F.round = none) (hn : 1 ≤ n) (l Bn n₀ J : Nat) (hJ24 : J ≤ 24) (Ji Jx : List (PJ J) → World → Prop)
    (hY : ∀ pre x W, Ji pre W → pre.length < J + 1 → YieldAt F (n - 1) Tryd.prog l #[.int .i64 x.1] W fun e W' =>
      (e = .returned (.bool true) ∧ Ji (pre ++ [x]) W' ∧ KB Bn n₀ W W') ∨ (e = .returned (.bool false) ∧ Jx (pre ++ [x]) W'))
    (W : World) (hBn : Boxed W Bn 56 (.int .i64 (J : Int))) (h0 : Ji [] W) :
    CallsIn F n Tryd.prog 47 #[.func (.yield l) #[] #[], .pointer (some ⟨Bn, 0, none⟩)] W fun e W' => (∃ v, e = .returned v) ∧
      ((∃ ys, ys = projA J ∧ Ji ys W') ∨ (∃ pre, pre <+: projA J ∧ Jx pre W')) := by
  have c0 := hBn.cell
  refine callsIn_of_wp Tryd.func47 rfl h6 ?_ hro
  simp only [Tryd.ntmps47, List.size_toArray, List.length_cons, List.length_nil, Nat.reduceAdd, Nat.reduceSub, Array.replicate_succ, Array.replicate_zero, List.push_toArray, List.append_toArray, List.nil_append, List.cons_append]
  gi_wp2
  gi_loopw [3] (fun p wr => ∃ k : Nat, k ≤ J + 1 ∧ p = .int .i64 (-(J : Int) + 2 * (k : Int)) ∧ Boxed wr Bn 56 (.int .i64 (J : Int)) ∧ Ji ((projA J).take k) wr) (fun p _ => ((J : Int) + 2 - intOf p).toNat)
  case atStart => exact ⟨0, by omega, by simp, hBn, h0⟩
  case round =>
    obtain ⟨k, hk, rfl, hB, hJs⟩ := hrel
    have c := hB.cell
    by_cases hlt : k < J + 1
    · have hkl : k < (projA J).length := by rw [projA_len]; omega
      obtain ⟨fn, tmps, assign, body, hy, hR⟩ := hY ((projA J).take k) (projA J)[k] wr hJs (by rw [List.length_take]; omega)
      rw [← List.take_succ_eq_append_getElem hkl] at hR
      rw [projA_at J k hkl] at hy
      gi_wp2
      refine hR.mono ?_
      rintro e W3 (⟨rfl, hJ3, hk3⟩ | ⟨rfl, hJx3⟩)
      · gi_wp2
        go_roundw
        case rel => exact ⟨k + 1, by omega, by go_num, hk3.2 _ _ hB, hJ3⟩
        case measure => simp [intOf]; omega
      · gi_wp2
        refine bodyPost_ret (results_none rfl _ _ _) rfl ?_
        exact ⟨⟨_, rfl⟩, .inr ⟨_, List.take_prefix _ _, hJx3⟩⟩
    · obtain rfl : k = J + 1 := by omega
      gi_wp2
      go_end0
      rw [List.take_of_length_le (by rw [projA_len]; omega)] at hJs
      exact ⟨⟨_, rfl⟩, .inl ⟨_, rfl, hJs⟩⟩
set_option maxRecDepth 100000 in
set_option maxHeartbeats 1000000 in
theorem proj_in (F : Fence) (n : Nat) (h5 : F.fn 28) (hro : F.round = none) (j : Int) (w : World) :
    CallsIn F n Tryd.prog 28 #[.int .i64 j] w fun e w' => e = .returned (.func (.func 47) #[] #[.pointer (some ⟨w.heap.size, 0, none⟩)]) ∧ w' = w.alloc (.cells #[.int .i64 j] 56) := by
  refine callsIn_of_wp Tryd.func28 rfl h5 ?_ hro
  simp only [Tryd.ntmps28, List.size_toArray, List.length_cons, List.length_nil, Nat.reduceAdd, Nat.reduceSub, Array.replicate_succ, Array.replicate_zero, List.push_toArray, List.append_toArray, List.nil_append, List.cons_append]
  gi_wp2
  go_ret
  exact ⟨rfl, rfl⟩
theorem proj_stops (F : Fence) (n : Nat) (h6 : F.fn 47) (hro : F.round = none) (hn : 1 ≤ n) (Bn n₀ J : Nat) (hJ24 : J ≤ 24) (w : World) (hBn : Boxed w Bn 56 (.int .i64 (J : Int))) :
    SeqStopsK F n Tryd.prog 47 #[.pointer (some ⟨Bn, 0, none⟩)] (fun x : PJ J => #[Value.int .i64 x.1]) (KB Bn n₀) (fun ys => ys = projA J) (fun pre => pre <+: projA J) (J + 1) w := fun l Ji Jx W hW _ _ hY h0 =>
  proj1_in F n h6 hro hn l Bn n₀ J hJ24 Ji Jx hY W ((hW.block Bn hBn.lt).trans hBn) h0
end Go.Proofs.YtpollgibgphipaaDoor.ProjI
