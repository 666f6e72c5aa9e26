/-
  Proves that the given statement (a tied card) on laws.FnExactSplitOf holds: for every input the law returns true and its arguments, and the two named variables, read as before. No further conditions.
-/
import Derived.Test.YtdejlinldocfjaaDoorCards
import Derived.Test.YtdejlinldocfjaaDoorTie
import Derived.Test.YtdejlinldocfjaaDoorWFnExactSplitOf
import Derived.Test.YtdejlinldocfjaaDoorOpen
import Derived.WalkKit
import Derived.ProofKit
import Derived.OpenShut
import Derived.ShutString
import Derived.ChangeOld
import Derived.Below
import Derived.OpenVars
import Derived.LaidMore
import Derived.LaidLaws
import Derived.SevenTiedAt
namespace Go.Proofs.YtdejlinldocfjaaDoor.fnExactSplitOf
open Go.ChangeShapes Go.WideShapes Go.ChangeAt Go.RowKit
open Go.ChangeMaps (open_string shut_string)
set_option linter.unusedVariables false

theorem own : ownKnob Tryd.prog.godebug = none := by kernel_rfl
theorem laidOut : laidOutB Tryd.prog = true := by kernel_rfl
abbrev laid2 : List (String × DataW Unit) := [("loop.example/atomicspectra/impl.errLevel", Rows.laid_loop_example_atomicspectra_impl_errLevel), ("loop.example/atomicspectra/impl.errAtRest", Rows.laid_loop_example_atomicspectra_impl_errAtRest)]
theorem gOne : Tryd.prog.globalNamed "loop.example/atomicspectra/impl.errAtRest" = some 1 := by kernel_rfl
theorem tOne : (Tryd.prog.globals[1]?).map (·.type) = some 74 := by kernel_rfl
/-- The door's own heap meets the condition. -/
theorem door_met (os : Os) (args : Array Value) : laidMetH Tryd.prog laid2 ((World.doorLaid Tryd.prog 400 os).forCall (fun _ _ => 0) ⟨#[], args, []⟩).memory := by
  rw [MakeChecks.laidMetH_plain _ _ _ (by kernel_rfl)]
  exact laidMet_of_run' 8 (by kernel_rfl) (by kernel_rfl)
/-- What the condition gives the walk: the second variable holds an error. -/
theorem of_laid {W : World} (h : laidMetH Tryd.prog laid2 W) : FacI.Errs W := by
  rw [MakeChecks.laidMetH_plain _ _ _ (by kernel_rfl)] at h
  obtain ⟨ps, ⟨g0, t0, cs0, f0, p0, q0, hg0, ht0, hv0, hd0, ⟨g1, t1, cs1, f1, p1, q1, hg1, ht1, hv1, hd1, _, _⟩, _⟩, _, _⟩ := h
  obtain rfl := Option.some.inj (gOne.symm.trans hg1)
  obtain rfl := Option.some.inj (tOne.symm.trans ht1)
  obtain ⟨_, u, v, hcs, _, _⟩ := iface_of_trod Tryd.underlying74 hd1
  have hcell := World.var?_cell hg1 hv1 0
  rw [Array.eq_one_of_toList hcs] at hcell
  have hc : W.cell? ⟨1, 0, none⟩ = some (.iface u v) := by simpa using hcell
  exact ⟨u, v, hc, World.block_lt_of_cell? _ _ hc⟩

set_option maxRecDepth 100000 in
theorem lifted (os : Os) (started : os.Started) (H : Type) (enc : TypeId × Value → H) :
    ReturnsInHanded {} Tryd.checked os 3 .any (fun w args => (Rows.fnExactSplitOfSpec.pre enc Tryd.prog Tryd.f3 [] false w args ∧ laidMetH Tryd.prog laid2 w) ∧ sizedMet enc Tryd.prog Tryd.f3 (OpenSpec.ofChange Rows.fnExactSplitOfSpec) false w args)
      (Rows.fnExactSplitOfSpec.post enc Tryd.prog Tryd.f3 false true false false) := by
  refine returnsInHanded_of_change_and (C := Tryd.checked) (X := fun w _ => laidMetH Tryd.prog laid2 w) (fun _ _ _ hh h => h.of_heap hh) own started (by kernel_rfl) Tryd.func3
    (ChangeSpec.witness_shaped (enc := enc) (C := Tryd.checked) (os := os) (X := fun w _ => laidMetH Tryd.prog laid2 w) false (World.doorLaid Tryd.prog 400 os) #[.agg #[.int .i64 0, .int .i64 0, .int .i64 0], .agg #[.int .i64 0, .int .i64 0, .int .i64 0]] 8 rfl (World.shaped_of_RefB (by kernel_rfl) (by kernel_rfl)) (by kernel_rfl) (by kernel_rfl) (by kernel_rfl) (door_met os _)) ?_
  intro W base args ds gs before hval0 hW _ _ hL _
  have hval : ∀ (j : Nat) t v, Tryd.f3.params[j]? = some t → args[j]? = some v → Value.okWide Tryd.prog W .any base t v := hval0
  have hW' := hW
  obtain ⟨p, q, hA0, hV, rfl, hfz, hnd⟩ := hW
  have hA : DataW.TrodAll enc Tryd.prog W 0 (fun _ => true) true Tryd.f3.params.toList args.toList ds p := hA0
  have hV' : DataW.TrodVars enc Tryd.prog W (fun _ => true) ["loop.example/atomicspectra/impl.errLevel", "loop.example/atomicspectra/impl.errAtRest"] gs q := hV
  rw [Tryd.params3] at hA hval
  obtain ⟨v0, vs0, d0, ds0, p0, q0, hargs, rfl, rfl, h0, r0⟩ := trodAll_cons hA
  obtain ⟨v1, vs1, d1, ds1, p1, q1, rfl, rfl, rfl, h1, r1⟩ := trodAll_cons r0
  obtain ⟨rfl, rfl, rfl⟩ := trodAll_nil r1
  obtain rfl : args = #[v0, v1] := by cases args; simp_all
  obtain ⟨_, _, _, _, g0, _, _, _, _, _, g1, _, egs, _, _, _, _, _, _, _, _, _⟩ := trodVars_two hV'
  subst egs
  have hEE := of_laid hL
  have k0 := h0
  have lt0 : ∀ x ∈ p0, x.block < W.heap.size := by obtain ⟨m, hm⟩ := k0; exact DataW.trod_lt m _ _ _ hm
  obtain ⟨cs0, fuel0, x0, e0, hf0⟩ := Open.agg Tryd.underlying25 (hval 0 25 v0 rfl rfl) h0
  subst e0
  obtain ⟨s0, l0, j0, ec0, ws0, wl0, wj0⟩ := Open.level hf0
  obtain rfl : cs0 = #[.int .i64 s0, .int .i64 l0, .int .i64 j0] := by cases cs0; simp_all
  have k1 := h1
  have lt1 : ∀ x ∈ p1, x.block < W.heap.size := by obtain ⟨m, hm⟩ := k1; exact DataW.trod_lt m _ _ _ hm
  obtain ⟨cs1, fuel1, x1, e1, hf1⟩ := Open.agg Tryd.underlying25 (hval 1 25 v1 rfl rfl) h1
  subst e1
  obtain ⟨s1, l1, j1, ec1, ws1, wl1, wj1⟩ := Open.level hf1
  obtain rfl : cs1 = #[.int .i64 s1, .int .i64 l1, .int .i64 j1] := by cases cs1; simp_all
  clear hA0 hval0
  refine (WFnExactSplitOf.fnExactSplitOf s0 l0 j0 s1 l1 j1 W hEE ws0 wl0 wj0 ws1 wl1 wj1).mono fun e W' ⟨he, bel⟩ => ?_
  subst he
  exact ⟨_, rfl, _, _, _, _, _, _, hW', trodAll_mk1 (shut_bool Tryd.underlying4 _), (trodAll_cons_mk (Below.trod laidOut (by kernel_rfl) (of_decide_eq_true (by kernel_rfl)) k0 bel lt0) (trodAll_cons_mk (Below.trod laidOut (by kernel_rfl) (of_decide_eq_true (by kernel_rfl)) k1 bel lt1) trodAll_mk0)), Below.trodVars laidOut bel (by kernel_rfl) hV', bel.frame _, fun h => by cases h⟩

theorem over : Rows.FnExactSplitOfSaid :=
  OpenClaim.holds_of_wide 3 Tryd.f3 rfl rfl rfl rfl rfl rfl rfl ⟨rfl, rfl, rfl, rfl, rfl⟩ rfl rfl rfl rfl rfl (by kernel_rfl) Tryd.func3 (by kernel_rfl)
    (of_decide_eq_true (by kernel_rfl)) (by unfold Func.isWrapper; first | (rw [if_pos (by decide +kernel)]; kernel_rfl) | (rw [if_neg (by decide +kernel)]; exact ⟨rfl, rfl⟩))
    (fun os started H enc _ => lifted os started H enc)

theorem proved : Rows.FnExactSplitOfCardSaid :=
  Claim7.holds_tied_plain_at .later [] [.sentinel, .sentinel] true (true, "e602afb229074c66433a566c70381af53386488739ff1b1af4630554e27f40a8") false
    over (fun _ h => by cases h) (by kernel_rfl) (fun _ h => by cases h) fnExactSplitOf_row_tie rfl ⟨rfl, rfl⟩ (by kernel_rfl) rfl
    (fun f fn hf hfn => by
      obtain rfl : f = 3 := Option.some.inj ((show Tryd.prog.funcNamed "loop.example/atomicspectra/laws.FnExactSplitOf" = some 3 by kernel_rfl).symm.trans hf) |>.symm
      obtain rfl : fn = Tryd.f3 := (Option.some.inj (Tryd.func3.symm.trans hfn)).symm
      exact ⟨by kernel_rfl, fun j t ht => by
        rw [Tryd.params3] at ht
        have hm : t ∈ [25, 25] := by simpa using Array.mem_of_getElem? ht
        have hall : ([25, 25].all fun u => !Tryd.prog.wantsStandIn u) = true := by kernel_rfl
        exact (show Tryd.prog.wantsStandIn t = false by simpa using List.all_eq_true.1 hall t hm)⟩)
    (by kernel_rfl)
#print axioms proved
end Go.Proofs.YtdejlinldocfjaaDoor.fnExactSplitOf
