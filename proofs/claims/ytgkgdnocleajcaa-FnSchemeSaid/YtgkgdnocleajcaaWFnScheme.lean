/-
  The walk of the law FnScheme.
-/
import Derived.Test.YtgkgdnocleajcaaLinesCommon
namespace Go.Proofs.Ytgkgdnocleajcaa.WFnScheme
open Go.RowKit Go.Proofs.Ytgkgdnocleajcaa.Spin Go.Proofs.Ytgkgdnocleajcaa.Row Go.Proofs.Ytgkgdnocleajcaa.Plain Go.Proofs.Ytgkgdnocleajcaa.Later Go.Proofs.Ytgkgdnocleajcaa.Node Go.Proofs.Ytgkgdnocleajcaa.Rd Go.Proofs.Ytgkgdnocleajcaa.DrawScheme Go.Proofs.Ytgkgdnocleajcaa.LinesS Go.Proofs.Ytgkgdnocleajcaa.LinesHelp Go.Proofs.Ytgkgdnocleajcaa.SchemeLaws Go.Proofs.Ytgkgdnocleajcaa.LinesCommon
set_option linter.unusedVariables false
set_option linter.unusedSimpArgs false

theorem valid_is {ns : List Nd} {r : Bool} {v : Value} {w : World} (h : schemeOk ns = r) (hs : Sees w 3 v ns.length (ns.flatMap encN)) : Calls Try.prog 18 #[v] w (Gives (.bool r) w) := h ▸ iSchemeValid ns v w hs
theorem svalid_is {ns : List Nd} {r : Bool} {v : Value} {w : World} (h : schemeOk ns = r) (hs : Sees w 3 v ns.length (ns.flatMap encN)) : Calls Try.prog 16 #[v] w (Gives (.bool r) w) := h ▸ sSchemeValid ns v w hs

set_option maxRecDepth 100000 in
set_option maxHeartbeats 2000000 in
theorem fnScheme (a : Option Addr) (n c : Nat) (zs : List Int) (a2 : Option Addr) (n2 c2 : Nat) (zs2 : List Int) (w0 : World) (h : IsRow .u8 w0 a n c zs) (h2 : IsRow .u8 w0 a2 n2 c2 zs2) :
    Calls Try.prog 4 #[.slice a n c, .slice a2 n2 c2] w0 (Yes w0) := by
  have HO := Lib.hid (drawSchemeValid a n c zs w0 h)
  have hn2m : n2 ≤ 9223372036854775807 := by
    rcases h2 with ⟨_, h2, _⟩ | ⟨_, _, h2, h3, _⟩
    · omega
    · unfold maxLen at h3; omega
  clear h h2
  by_cases hn : 1048576 < n
  · go_enter Try.func4, Try.ntmps4
    go_wp2_with fail
    go_ret
    exact ⟨rfl, Below.refl _ _⟩
  by_cases hn2 : 1048576 < n2
  · go_enter Try.func4, Try.ntmps4
    go_wp2_with fail
    all_goals go_ret
    all_goals exact ⟨rfl, Below.refl _ _⟩
  · have hnI : (n : Int) ≤ 1048576 := by omega
    have hn2I : (n2 : Int) ≤ 1048576 := by omega
    go_enter Try.func4, Try.ntmps4
    go_wp2_with fail
    refine HO.out.mono ?_
    rintro e w ⟨ns, v, hl, rfl, O, B0⟩
    clear HO hn hn2
    cases hok : schemeOk ns
    · skip
      go_wp2_with fail
      (with_reducible refine (valid_is hok (Sees.of_own O)).mono ?_)
      rintro e w1 ⟨rfl, b1⟩
      have B1 := B0.trans (b1.mono B0.size)
      replace O := own_below O b1 (Nat.le_refl _)
      have hz1 := b1.size
      clear b1 B0
      go_wp2_with fail
      (with_reducible refine (svalid_is hok (Sees.of_own O)).mono ?_)
      rintro e w2 ⟨rfl, b2⟩
      have B2 := B1.trans (b2.mono B1.size)
      replace O := own_below O b2 (Nat.le_refl _)
      have hz2 := b2.size
      clear b2 B1
      go_wp2
      go_ret
      exact ⟨rfl, B2⟩
    · skip
      go_wp2_with fail
      (with_reducible refine (valid_is hok (Sees.of_own O)).mono ?_)
      rintro e w1 ⟨rfl, b1⟩
      have B1 := B0.trans (b1.mono B0.size)
      replace O := own_below O b1 (Nat.le_refl _)
      have hz1 := b1.size
      clear b1 B0
      go_wp2_with fail
      (with_reducible refine (svalid_is hok (Sees.of_own O)).mono ?_)
      rintro e w2 ⟨rfl, b2⟩
      have B2 := B1.trans (b2.mono B1.size)
      replace O := own_below O b2 (Nat.le_refl _)
      have hz2 := b2.size
      clear b2 B1
      obtain ⟨i0, hi, hz0, hz1', hz2'⟩ := info_parts infoNode
      have HI := Lib.hid hi
      have HZ0 := Lib.hid hz0
      have HZ1 := Lib.hid hz1'
      have HZ2 := Lib.hid hz2'
      clear hi hz0 hz1' hz2'
      have HOK := Lib.hid hok
      have hm1 := (scheme_parts hok).1
      obtain ⟨M, hM⟩ : ∃ M, M = ns.length := ⟨_, rfl⟩
      have HM := Lib.hid hM
      have hS0 := Sees.of_own O
      have HSS := Lib.hid (fun W (h : Below w2.heap.size w2 W) => hS0.below h (Nat.le_refl _))
      rw [← hM] at O hm1 hl
      obtain ⟨g, cs, rfl, hg0, hg1, hgc, hgm, hcell⟩ := own_form O (by omega)
      have HTL := Lib.hid O.1
      have HT1 := Lib.hid (all_cells (W := w2.alloc (.cells #[] 32)) hcell O.1 (fun j => World.cell?_alloc_lt _ _ _ hg1))
      have HT2 := Lib.hid (one_encN ns)
      have HE0 := Lib.hid (own_empty w2 w2.heap.size (Nat.le_refl _))
      unfold maxLen at hgm
      have hmod0 : (0 : Int) ≤ (n2 : Int) % (M : Int) := Int.emod_nonneg _ (by omega)
      have hmod1 : (n2 : Int) % (M : Int) < (M : Int) := Int.emod_lt_of_pos _ (by omega)
      obtain ⟨r, hr⟩ : ∃ r : Nat, r = n2 % M := ⟨_, rfl⟩
      have hrl : r < M := by rw [hr]; exact Nat.mod_lt _ (by omega)
      obtain ⟨K, hK⟩ : ∃ K : Nat, K = 1 + r := ⟨_, rfl⟩
      have hre : 1 + (n2 : Int) % (M : Int) = (K : Int) := by rw [hK, hr, Int.natCast_add, Int.natCast_emod]; rfl
      have HRE := Lib.hid hre
      have hK1 : 1 ≤ K := by omega
      have hK2 : K ≤ M := by omega
      clear hr hK hrl hre hok hM hcell O hS0
      go_wp2_with (at_builtin; refine wpList_append_lies _ rfl _ _ 25 rfl w2.heap.size 32 i0 (.agg #[.int .i64 0, .int .i64 0, .bool false]) 3 24 Try.underlying25 HI.out HZ0.out HZ1.out HZ2.out rfl (by decide) _ _ _ rfl HE0.out ⟨g, 0, none⟩ M cs (ns.flatMap encN) rfl HTL.out HT1.out HT2.out (by omega) (by unfold maxLen; omega) (by omega) (by simp) (w2.heap.size + 1) (by simp) ?_)
      intro gx cx w3 O3 g3 _ hg3
      (try simp only [Nat.zero_add, List.nil_append] at O3)
      have b3 : Below w2.heap.size w2 w3 := own_step (Below.refl _ _) (Nat.le_refl _) g3 (fun k hk => by simp [Value.ownBlock] at hk; omega)
      have hgx := (O3.lt gx rfl).1
      have hF := fun j => O3.frozenAt j
      have hl0 : 0 < ns.length := by have := HM.out; omega
      have x0 : w3.cell? ⟨gx, 0, none⟩ = some (.int .i64 ns[0].e) := (O3.cellAt 0 (by omega)).trans (flat_get encN 3 encN_len ns 0 0 hl0 (by omega))
      obtain ⟨o4, g4⟩ := O3.stored 0 (.int .i64 1)
      have O4 := Lib.hid o4
      have HFLAT := Lib.hid (flat_set encN 3 encN_len ns 0 0 hl0 (by omega) (.int .i64 1) ⟨1, ns[0].j, ns[0].o⟩ rfl)
      have B4 := Lib.hid (below_only b3 g4 b3.size (fun k hk => by injection hk with hk; omega))
      rw [HRE.out]
      clear o4 g4 g3 b3 O3 HE0 HT1 HT2 HTL hmod0 hmod1
      have hKc : (K : Int) ≤ (cs : Int) := by omega
      have hv1 := scheme_take HOK.out hK1 (by have := HM.out; omega)
      have hv2 : schemeOk (ns.map flipN) = true := (scheme_flip ns).trans HOK.out
      have hv3 : schemeOk (ns.set 0 ⟨1, ns[0].j, ns[0].o⟩) = false := scheme_first (by simp [nth, hl0])
      have HV1 := Lib.hid hv1
      have HV2 := Lib.hid hv2
      have HV3 := Lib.hid hv3
      clear hv1 hv2 hv3
      go_wp2_with fail
      clear x0 hF
      generalize w3.setCell ⟨gx, 0, none⟩ (.int .i64 1) = w4 at *
      have bb4 := B4.out
      have OX := O4.out
      have hsees : Sees w4 3 (.slice (some ⟨g, 0, none⟩) M cs) M (ns.flatMap encN) := by have h := HSS.out w4 bb4; rw [HM.out] at h ⊢; exact h
      have OX2 : w4.ownsRow w2.heap.size 32 3 (.slice (some ⟨gx, 0, none⟩) M cx) (ns.set 0 ⟨1, ns[0].j, ns[0].o⟩).length ((ns.set 0 ⟨1, ns[0].j, ns[0].o⟩).flatMap encN) := by
        rw [← HFLAT.out, List.length_set, ← HM.out]
        exact OX
      have HC5 := Lib.hid (valid_is HV1.out (sees_take encN_len HM.out hsees K (by omega) (by omega)))
      have B4' := B2.trans (bb4.mono B2.size)
      clear hsees OX B4 O4
      (with_reducible refine HC5.out.mono ?_)
      rintro e w5 ⟨rfl, b5⟩
      have OX5 := own_below OX2 b5 (Nat.le_refl _)
      have bb5 := bb4.trans (b5.mono bb4.size)
      have B5 := B4'.trans (b5.mono B4'.size)
      have HC6 := Lib.hid (flipped ns (.slice (some ⟨g, 0, none⟩) M cs) w5 (by have h := HSS.out w5 bb5; rw [HM.out] at h ⊢; exact h) (by have := HM.out; omega) (by have := HM.out; omega))
      clear HC5 OX2 b5 bb4 B4'
      go_wp2_with fail
      (with_reducible refine HC6.out.mono ?_)
      rintro e w6 ⟨v6, rfl, O6, b6⟩
      have B6 := B5.trans (b6.mono B5.size)
      have OX6 := own_below OX5 b6 (Nat.le_refl _)
      clear HC6 OX5 b6
      go_wp2_with fail
      (with_reducible refine (valid_is HV2.out (Sees.of_own O6)).mono ?_)
      rintro e w7 ⟨rfl, b7⟩
      have B7 := B6.trans (b7.mono B6.size)
      replace OX6 := own_below OX6 b7 (Nat.le_refl _)
      have hz7 := b7.size
      clear b7 B6
      go_wp2_with fail
      (with_reducible refine (valid_is HV3.out (Sees.of_own OX6)).mono ?_)
      rintro e w8 ⟨rfl, b8⟩
      have B8 := B7.trans (b8.mono B7.size)
      have hz8 := b8.size
      clear b8 B7
      go_wp2
      go_ret
      exact ⟨rfl, B8⟩

end Go.Proofs.Ytgkgdnocleajcaa.WFnScheme
