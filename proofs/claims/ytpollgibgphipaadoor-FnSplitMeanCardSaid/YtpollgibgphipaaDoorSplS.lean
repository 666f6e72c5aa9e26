/-
  Contract of the reference's SplitOf.
-/
import Derived.Test.YtpollgibgphipaaDoorSplSN
import Derived.Test.YtpollgibgphipaaDoorSix6
import Derived.Test.YtpollgibgphipaaDoorCoupled
import Derived.Deep.DeepCutAuto
namespace Go.Proofs.YtpollgibgphipaaDoor.SplS
open Go.RowKit Go.Proofs.YtpollgibgphipaaDoor.RatP Go.Proofs.YtpollgibgphipaaDoor.ChoP Go.Proofs.YtpollgibgphipaaDoor.Rat Go.Proofs.YtpollgibgphipaaDoor.SplitPlain Go.Proofs.YtpollgibgphipaaDoor.SplitP Go.Proofs.YtpollgibgphipaaDoor.SplitDef Go.Proofs.YtpollgibgphipaaDoor.Fac Go.Proofs.YtpollgibgphipaaDoor.Cg Go.Proofs.YtpollgibgphipaaDoor.FacS Go.Proofs.YtpollgibgphipaaDoor.Spin Go.Proofs.YtpollgibgphipaaDoor.Row Go.Proofs.YtpollgibgphipaaDoor.Coupled Go.Proofs.YtpollgibgphipaaDoor.Later Go.Proofs.YtpollgibgphipaaDoor.Six6
set_option linter.unusedVariables false
set_option linter.unusedSimpArgs false

set_option maxRecDepth 100000 in
set_option maxHeartbeats 16000000 in
theorem sSplitOf_yes (s l j s' l' j' : Int) (w : World) (h : splitOk s l j s' l' j' = true) :
    Calls Tryd.prog 10 #[.agg #[.int .i64 s, .int .i64 l, .int .i64 j], .agg #[.int .i64 s', .int .i64 l', .int .i64 j']] w (GivesSplits true (splitS s l j s' l' j') w) := by
  have L := splitOk_pair h
  obtain ⟨i0, hi, hz0, hz1, hz2⟩ := info_parts infoSplit'
  have HI := Lib.hid hi
  have HZ0 := Lib.hid hz0
  have HZ1 := Lib.hid hz1
  have HZ2 := Lib.hid hz2
  have HO := Lib.hid (own_emptySp ((w.alloc (.cells #[.int .i64 s, .int .i64 l, .int .i64 j] 26)).alloc (.cells #[.int .i64 s', .int .i64 l', .int .i64 j'] 26)) w.heap.size (by simp; omega))
  have hV1 := fun W => sLevelValid s l j W
  have hV2 := fun W => sLevelValid s' l' j' W
  have hT := fun W => sSpinTriangle j' 2 j W
  rw [L.a.ok] at hV1
  rw [L.b.ok] at hV2
  rw [L.ht] at hT
  have HV1 := Lib.hid hV1
  have HV2 := Lib.hid hV2
  have HT := Lib.hid hT
  have hj := L.a.hj
  have hj' := L.b.hj
  have h3 : decide (6 < j) = false := decide_eq_false (by omega)
  have h4 : decide (6 < j') = false := decide_eq_false (by omega)
  have HP1 := Lib.hid (fun W => sSpinProjections j (by omega) W)
  have HP2 := Lib.hid (fun W => sSpinProjections j' (by omega) W)
  have HEND := Lib.hid (show rawTo j j' (gn s l j) (gn s' l' j') (proj j).length = splitS s l j s' l' j' from rawTo_all _ _ _ _)
  have hU := proj_len hj.1
  have hV := proj_len hj'.1
  have HUA := Lib.hid (fun k hk => proj_at (k := k) hj.1 hk)
  have HVA := Lib.hid (fun k hk => proj_at (k := k) hj'.1 hk)
  have HRL := Lib.hid (fun k => rawTo_len j j' (gn s l j) (gn s' l' j') k 7 (by omega))
  have HRT := Lib.hid (fun u k => rowTo_len j j' (gn s l j) (gn s' l' j') u k)
  have HRS := Lib.hid (fun k hk => rawTo_succ (x := j) (y := j') (a := gn s l j) (c := gn s' l' j') (i := k) hk)
  have HRY := Lib.hid (fun u k hk h => rowTo_yes (x := j) (y := j') (a := gn s l j) (c := gn s' l' j') (u := u) (k := k) hk h)
  have HRN := Lib.hid (fun u k hk h => rowTo_no (x := j) (y := j') (a := gn s l j) (c := gn s' l' j') (u := u) (k := k) hk h)
  have HMC := Lib.hid (fun u v hu hv h => mem_comps (x := j) (y := j') (u := u) (l := v) hu hv h)
  have HON := Lib.hid (fun u v hm W => sOne s l j s' l' j' u v L hm W)
  have HR0 := Lib.hid (show rawTo j j' (gn s l j) (gn s' l' j') 0 = [] by simp [rawTo])
  obtain ⟨hj0, hj1⟩ := hj
  obtain ⟨hj0', hj1'⟩ := hj'
  obtain ⟨a, ha⟩ : ∃ a, a = gn s l j := ⟨_, rfl⟩
  obtain ⟨c, hc⟩ : ∃ c, c = gn s' l' j' := ⟨_, rfl⟩
  rw [← ha, ← hc] at HEND HRL HRT HRS HRY HRN HON HR0
  generalize splitS s l j s' l' j' = RES at *
  clear ha hc hi hz0 hz1 hz2 hV1 hV2 hT L h
  go_enter Tryd.func10, Tryd.ntmps10
  go_wp2_with fail
  (with_reducible refine (HV1.out _).mono ?_)
  rintro e w1 ⟨rfl, b1⟩
  have O1 := own_below HO.out b1 (Nat.le_refl _)
  have hz1 := b1.size
  obtain ⟨hc1, hf1⟩ := bcell b1
  have B1 : Below w.heap.size w w1 := Below.trans (by repeat (first | (with_reducible refine Below.drew ?_) | (with_reducible refine below_drewN ?_ _) | (with_reducible refine Below.alloc ?_ ?_ _) | (with_reducible refine Below.setCell ?_ ?_ _) | (with_reducible assumption) | (with_reducible exact Below.refl _ _) | omega | (simp <;> omega))) (b1.mono (by first | omega | (simp <;> omega)))
  (try simp at hz1)
  have hy1 : w.heap.size < w1.heap.size := by omega
  have hx1 : w.heap.size + 1 < w1.heap.size := by omega
  have hx1' : w.heap.size + 1 + 1 < w1.heap.size := by omega
  clear b1
  have kc1_0_0 : w1.cell? ⟨w.heap.size, 0, none⟩ = some (.int .i64 s) := (hc1 (w.heap.size) 0 (by first | omega | (simp <;> omega))).trans (by first | (simp; done) | (simp [*]; done) | (simp [*, World.cell?_alloc_at, World.cell?_alloc_past, World.cell?_alloc_lt, lt2, lt3, lt4]; done))
  have kc1_1_0 : w1.cell? ⟨w.heap.size, 1, none⟩ = some (.int .i64 l) := (hc1 (w.heap.size) 1 (by first | omega | (simp <;> omega))).trans (by first | (simp; done) | (simp [*]; done) | (simp [*, World.cell?_alloc_at, World.cell?_alloc_past, World.cell?_alloc_lt, lt2, lt3, lt4]; done))
  have kc1_2_0 : w1.cell? ⟨w.heap.size, 2, none⟩ = some (.int .i64 j) := (hc1 (w.heap.size) 2 (by first | omega | (simp <;> omega))).trans (by first | (simp; done) | (simp [*]; done) | (simp [*, World.cell?_alloc_at, World.cell?_alloc_past, World.cell?_alloc_lt, lt2, lt3, lt4]; done))
  have kc1_0_1 : w1.cell? ⟨w.heap.size + 1, 0, none⟩ = some (.int .i64 s') := (hc1 (w.heap.size + 1) 0 (by first | omega | (simp <;> omega))).trans (by first | (simp; done) | (simp [*]; done) | (simp [*, World.cell?_alloc_at, World.cell?_alloc_past, World.cell?_alloc_lt, lt2, lt3, lt4]; done))
  have kc1_1_1 : w1.cell? ⟨w.heap.size + 1, 1, none⟩ = some (.int .i64 l') := (hc1 (w.heap.size + 1) 1 (by first | omega | (simp <;> omega))).trans (by first | (simp; done) | (simp [*]; done) | (simp [*, World.cell?_alloc_at, World.cell?_alloc_past, World.cell?_alloc_lt, lt2, lt3, lt4]; done))
  have kc1_2_1 : w1.cell? ⟨w.heap.size + 1, 2, none⟩ = some (.int .i64 j') := (hc1 (w.heap.size + 1) 2 (by first | omega | (simp <;> omega))).trans (by first | (simp; done) | (simp [*]; done) | (simp [*, World.cell?_alloc_at, World.cell?_alloc_past, World.cell?_alloc_lt, lt2, lt3, lt4]; done))
  go_wp2_with fail
  (with_reducible refine (HV2.out _).mono ?_)
  rintro e w2 ⟨rfl, b2⟩
  have O2 := own_below O1 b2 (Nat.le_refl _)
  have hz2 := b2.size
  obtain ⟨hc2, hf2⟩ := bcell b2
  have B2 : Below w.heap.size w w2 := Below.trans (by repeat (first | (with_reducible refine Below.drew ?_) | (with_reducible refine below_drewN ?_ _) | (with_reducible refine Below.alloc ?_ ?_ _) | (with_reducible refine Below.setCell ?_ ?_ _) | (with_reducible assumption) | (with_reducible exact Below.refl _ _) | omega | (simp <;> omega))) (b2.mono (by first | omega | (simp <;> omega)))
  (try simp at hz2)
  have hy2 : w.heap.size < w2.heap.size := by omega
  have hx2 : w.heap.size + 1 < w2.heap.size := by omega
  have hx2' : w.heap.size + 1 + 1 < w2.heap.size := by omega
  clear b2
  have kc2_0_0 : w2.cell? ⟨w.heap.size, 0, none⟩ = some (.int .i64 s) := (hc2 (w.heap.size) 0 (by first | omega | (simp <;> omega))).trans (by first | (simp; done) | (simp [*]; done) | (simp [*, World.cell?_alloc_at, World.cell?_alloc_past, World.cell?_alloc_lt, lt2, lt3, lt4]; done))
  have kc2_1_0 : w2.cell? ⟨w.heap.size, 1, none⟩ = some (.int .i64 l) := (hc2 (w.heap.size) 1 (by first | omega | (simp <;> omega))).trans (by first | (simp; done) | (simp [*]; done) | (simp [*, World.cell?_alloc_at, World.cell?_alloc_past, World.cell?_alloc_lt, lt2, lt3, lt4]; done))
  have kc2_2_0 : w2.cell? ⟨w.heap.size, 2, none⟩ = some (.int .i64 j) := (hc2 (w.heap.size) 2 (by first | omega | (simp <;> omega))).trans (by first | (simp; done) | (simp [*]; done) | (simp [*, World.cell?_alloc_at, World.cell?_alloc_past, World.cell?_alloc_lt, lt2, lt3, lt4]; done))
  have kc2_0_1 : w2.cell? ⟨w.heap.size + 1, 0, none⟩ = some (.int .i64 s') := (hc2 (w.heap.size + 1) 0 (by first | omega | (simp <;> omega))).trans (by first | (simp; done) | (simp [*]; done) | (simp [*, World.cell?_alloc_at, World.cell?_alloc_past, World.cell?_alloc_lt, lt2, lt3, lt4]; done))
  have kc2_1_1 : w2.cell? ⟨w.heap.size + 1, 1, none⟩ = some (.int .i64 l') := (hc2 (w.heap.size + 1) 1 (by first | omega | (simp <;> omega))).trans (by first | (simp; done) | (simp [*]; done) | (simp [*, World.cell?_alloc_at, World.cell?_alloc_past, World.cell?_alloc_lt, lt2, lt3, lt4]; done))
  have kc2_2_1 : w2.cell? ⟨w.heap.size + 1, 2, none⟩ = some (.int .i64 j') := (hc2 (w.heap.size + 1) 2 (by first | omega | (simp <;> omega))).trans (by first | (simp; done) | (simp [*]; done) | (simp [*, World.cell?_alloc_at, World.cell?_alloc_past, World.cell?_alloc_lt, lt2, lt3, lt4]; done))
  go_wp2_with fail
  (with_reducible refine (HT.out _).mono ?_)
  rintro e w' ⟨rfl, rfl⟩
  go_wp2_with fail
  (with_reducible refine (HP1.out _).mono ?_)
  rintro e w3 ⟨r1, rfl, Q1, b3⟩
  have O3 := own_below O2 b3 (Nat.le_refl _)
  have hz3 := b3.size
  obtain ⟨hc3, hf3⟩ := bcell b3
  have B3 : Below w.heap.size w w3 := B2.trans (b3.mono B2.size)
  have hy3 : w.heap.size < w3.heap.size := by omega
  have hx3 : w.heap.size + 1 < w3.heap.size := by omega
  have kc3_0_0 : w3.cell? ⟨w.heap.size, 0, none⟩ = some (.int .i64 s) := (hc3 (w.heap.size) 0 (by first | omega | (simp <;> omega))).trans (by first | (simp; done) | (simp [*]; done) | (simp [*, World.cell?_alloc_at, World.cell?_alloc_past, World.cell?_alloc_lt, lt2, lt3, lt4]; done))
  have kc3_1_0 : w3.cell? ⟨w.heap.size, 1, none⟩ = some (.int .i64 l) := (hc3 (w.heap.size) 1 (by first | omega | (simp <;> omega))).trans (by first | (simp; done) | (simp [*]; done) | (simp [*, World.cell?_alloc_at, World.cell?_alloc_past, World.cell?_alloc_lt, lt2, lt3, lt4]; done))
  have kc3_2_0 : w3.cell? ⟨w.heap.size, 2, none⟩ = some (.int .i64 j) := (hc3 (w.heap.size) 2 (by first | omega | (simp <;> omega))).trans (by first | (simp; done) | (simp [*]; done) | (simp [*, World.cell?_alloc_at, World.cell?_alloc_past, World.cell?_alloc_lt, lt2, lt3, lt4]; done))
  have kc3_0_1 : w3.cell? ⟨w.heap.size + 1, 0, none⟩ = some (.int .i64 s') := (hc3 (w.heap.size + 1) 0 (by first | omega | (simp <;> omega))).trans (by first | (simp; done) | (simp [*]; done) | (simp [*, World.cell?_alloc_at, World.cell?_alloc_past, World.cell?_alloc_lt, lt2, lt3, lt4]; done))
  have kc3_1_1 : w3.cell? ⟨w.heap.size + 1, 1, none⟩ = some (.int .i64 l') := (hc3 (w.heap.size + 1) 1 (by first | omega | (simp <;> omega))).trans (by first | (simp; done) | (simp [*]; done) | (simp [*, World.cell?_alloc_at, World.cell?_alloc_past, World.cell?_alloc_lt, lt2, lt3, lt4]; done))
  have kc3_2_1 : w3.cell? ⟨w.heap.size + 1, 2, none⟩ = some (.int .i64 j') := (hc3 (w.heap.size + 1) 2 (by first | omega | (simp <;> omega))).trans (by first | (simp; done) | (simp [*]; done) | (simp [*, World.cell?_alloc_at, World.cell?_alloc_past, World.cell?_alloc_lt, lt2, lt3, lt4]; done))
  clear b3
  go_wp2_with fail
  (with_reducible refine (HP2.out _).mono ?_)
  rintro e w4 ⟨r2, rfl, Q2, b4⟩
  have O4 := own_below O3 b4 (Nat.le_refl _)
  have Q1' := own_below Q1 b4 (Nat.le_refl _)
  have hz4 := b4.size
  obtain ⟨hc4, hf4⟩ := bcell b4
  have B4 : Below w.heap.size w w4 := B3.trans (b4.mono B3.size)
  have hy4 : w.heap.size < w4.heap.size := by omega
  have hx4 : w.heap.size + 1 < w4.heap.size := by omega
  have hx4' : w.heap.size + 1 + 1 < w4.heap.size := by omega
  have kc4_0_0 : w4.cell? ⟨w.heap.size, 0, none⟩ = some (.int .i64 s) := (hc4 (w.heap.size) 0 (by first | omega | (simp <;> omega))).trans (by first | (simp; done) | (simp [*]; done) | (simp [*, World.cell?_alloc_at, World.cell?_alloc_past, World.cell?_alloc_lt, lt2, lt3, lt4]; done))
  have kc4_1_0 : w4.cell? ⟨w.heap.size, 1, none⟩ = some (.int .i64 l) := (hc4 (w.heap.size) 1 (by first | omega | (simp <;> omega))).trans (by first | (simp; done) | (simp [*]; done) | (simp [*, World.cell?_alloc_at, World.cell?_alloc_past, World.cell?_alloc_lt, lt2, lt3, lt4]; done))
  have kc4_2_0 : w4.cell? ⟨w.heap.size, 2, none⟩ = some (.int .i64 j) := (hc4 (w.heap.size) 2 (by first | omega | (simp <;> omega))).trans (by first | (simp; done) | (simp [*]; done) | (simp [*, World.cell?_alloc_at, World.cell?_alloc_past, World.cell?_alloc_lt, lt2, lt3, lt4]; done))
  have kc4_0_1 : w4.cell? ⟨w.heap.size + 1, 0, none⟩ = some (.int .i64 s') := (hc4 (w.heap.size + 1) 0 (by first | omega | (simp <;> omega))).trans (by first | (simp; done) | (simp [*]; done) | (simp [*, World.cell?_alloc_at, World.cell?_alloc_past, World.cell?_alloc_lt, lt2, lt3, lt4]; done))
  have kc4_1_1 : w4.cell? ⟨w.heap.size + 1, 1, none⟩ = some (.int .i64 l') := (hc4 (w.heap.size + 1) 1 (by first | omega | (simp <;> omega))).trans (by first | (simp; done) | (simp [*]; done) | (simp [*, World.cell?_alloc_at, World.cell?_alloc_past, World.cell?_alloc_lt, lt2, lt3, lt4]; done))
  have kc4_2_1 : w4.cell? ⟨w.heap.size + 1, 2, none⟩ = some (.int .i64 j') := (hc4 (w.heap.size + 1) 2 (by first | omega | (simp <;> omega))).trans (by first | (simp; done) | (simp [*]; done) | (simp [*, World.cell?_alloc_at, World.cell?_alloc_past, World.cell?_alloc_lt, lt2, lt3, lt4]; done))
  obtain ⟨U, hUU⟩ : ∃ U, U = proj j := ⟨_, rfl⟩
  obtain ⟨V, hVV⟩ : ∃ V, V = proj j' := ⟨_, rfl⟩
  rw [← hUU] at Q1' hU HUA HRS HEND HMC
  rw [← hVV] at Q2 hV HVA HRY HRN HRS HMC
  obtain ⟨g1, c1, rfl, hg1, hgl1, hgc1, hgm1, hcell1⟩ := ints_own Q1' (by omega)
  obtain ⟨g2, c2, rfl, hg2, hgl2, hgc2, hgm2, hcell2⟩ := ints_own Q2 (by omega)
  obtain ⟨n1, hn1⟩ : ∃ n1, n1 = U.length := ⟨_, rfl⟩
  obtain ⟨n2, hn2⟩ : ∃ n2, n2 = V.length := ⟨_, rfl⟩
  have hn7 : n1 ≤ 7 := by omega
  have hn27 : n2 ≤ 7 := by omega
  have HN1 := Lib.hid hn1
  have HN2 := Lib.hid hn2
  rw [← hn1] at hU hgc1 HEND ⊢
  rw [← hn2] at hV hgc2 HRS ⊢
  have HUL := Lib.hid hU
  have HVL := Lib.hid hV
  have HC1 := Lib.hid hcell1
  have HC2 := Lib.hid hcell2
  have HX := Lib.hid (And.intro kc4_0_0 (And.intro kc4_1_0 kc4_2_0))
  have HY := Lib.hid (And.intro kc4_0_1 (And.intro kc4_1_1 kc4_2_1))
  have HO4 := Lib.hid O4
  have HNX := Lib.hid (show some w.heap.size ≠ some (w.heap.size + 1 + 1) by simp; omega)
  have HNY := Lib.hid (show some (w.heap.size + 1) ≠ some (w.heap.size + 1 + 1) by simp)
  have HNG1 := Lib.hid (show some g1 ≠ some (w.heap.size + 1 + 1) by simp; omega)
  have HNG2 := Lib.hid (show some g2 ≠ some (w.heap.size + 1 + 1) by simp; omega)
  unfold maxLen at hgm1 hgm2
  clear hU hV b4 O4 O3 O2 O1 HO Q1 Q1' Q2 hcell1 hcell2 hn1 hn2 hUU hVV hc1 hf1 hc2 hf2 hc3 hf3 hc4 hf4 hz1 hz2 hz3 hz4 B1 B2 B3 hy1 hy2 hy3 hx1 hx2 hx3 hx1' hx2' HV1 HV2 HT HP1 HP2
  clear kc1_0_0 kc1_1_0 kc1_2_0 kc1_0_1 kc1_1_1 kc1_2_1 kc2_0_0 kc2_1_0 kc2_2_0 kc2_0_1 kc2_1_1 kc2_2_1 kc3_0_0 kc3_1_0 kc3_2_0 kc3_0_1 kc3_1_1 kc3_2_1 kc4_0_0 kc4_1_0 kc4_2_0 kc4_0_1 kc4_1_1 kc4_2_1
  go_wp2
  go_loopw [6, 9] (fun u i wr => ∃ (k : Nat) (v0 : Value), v0 = u ∧ k ≤ n1 ∧ i = .int .i64 k ∧ Hold w w4 wr v0 (rawTo j j' a c k)) (fun _ i _ => n1 - (intOf i).toNat)
  case atStart => exact ⟨0, _, rfl, by omega, rfl, by rw [HR0.out]; exact ⟨by simpa using HO4.out, only_refl _ _, own_at _ _ _ _⟩⟩
  case round =>
    obtain ⟨k, v0, rfl, hk, rfl, hown, hG, hvo⟩ := hrel
    have HOW := Lib.hid hown
    have HGG := Lib.hid hG
    have HV := Lib.hid hvo
    obtain ⟨wo, rfl⟩ : ∃ wo : World, wo = wr := ⟨_, rfl⟩
    clear hown hvo hG
    by_cases hlt : k < n1
    · have hkU : k < U.length := by have := HN1.out; omega
      have HUK := Lib.hid (HUA.out k hkU)
      have HKS := Lib.hid (HRS.out k hkU)
      have HMU := Lib.hid (List.getElem_mem hkU)
      have HCK := Lib.hid (HC1.out k hkU)
      have hub : -6 ≤ U[k] ∧ U[k] ≤ 6 := by have := HUK.out; have := HUL.out; omega
      generalize U[k] = uk at *
      obtain ⟨hub1, hub2⟩ := hub
      have hk0 : (k : Int) < (n1 : Int) := by omega
      go_wp2
      go_loopw [6, 10] (fun u i wr => ∃ (m : Nat) (v1 : Value), v1 = u ∧ m ≤ n2 ∧ i = .int .i64 m ∧ Hold w w4 wr v1 (rawTo j j' a c k ++ rowTo j j' a c uk m)) (fun _ i _ => n2 - (intOf i).toNat)
      case atStart => exact ⟨0, v0, rfl, by omega, rfl, by rw [rowTo_zero, List.append_nil]; exact ⟨HOW.out, HGG.out, HV.out⟩⟩
      case round =>
        obtain ⟨m, v1, rfl, hm, rfl, hown, hG, hvo⟩ := hrel
        have HV1 := Lib.hid hvo
        have hsz := hG.size
        clear hvo
        by_cases hmn : m < n2
        · have hmV : m < V.length := by have := HN2.out; omega
          have HVM := Lib.hid (HVA.out m hmV)
          have HMV := Lib.hid (List.getElem_mem hmV)
          have HYY := Lib.hid (fun h => HRY.out uk m hmV h)
          have HNN := Lib.hid (fun h => HRN.out uk m hmV h)
          have hw0 : w.heap.size < wr.heap.size := by omega
          have hw1 : w.heap.size + 1 < wr.heap.size := by omega
          have hw3 : g1 < wr.heap.size := by omega
          have hw4 : g2 < wr.heap.size := by omega
          have x0 := (only_cell hG hy4 HNX.out 0).trans HX.out.1
          have x1 := (only_cell hG hy4 HNX.out 1).trans HX.out.2.1
          have x2 := (only_cell hG hy4 HNX.out 2).trans HX.out.2.2
          have y0 := (only_cell hG hx4 HNY.out 0).trans HY.out.1
          have y1 := (only_cell hG hx4 HNY.out 1).trans HY.out.2.1
          have y2 := (only_cell hG hx4 HNY.out 2).trans HY.out.2.2
          have e1 := (only_cell hG hgl1 HNG1.out k).trans HCK.out
          have e2 := (only_cell hG hgl2 HNG2.out m).trans (HC2.out m hmV)
          have hvb : -6 ≤ V[m] ∧ V[m] ≤ 6 := by have := HVM.out; have := HVL.out; omega
          generalize V[m] = vm at *
          obtain ⟨hvb1, hvb2⟩ := hvb
          have hpl : (rawTo j j' a c k ++ rowTo j j' a c uk m).length ≤ 100 := by
            have h1 := HRL.out k
            have h2 := HRT.out uk m
            have h3 : k * 7 ≤ 49 := by omega
            rw [List.length_append]; omega
          have hm0 : (m : Int) < (n2 : Int) := by omega
          have hwr : IntKind.i64.wrap (uk - vm) = uk - vm := IntWalk.i64_in _ (by omega)
          have hA := fun W => l1Abs (uk - vm) W (by omega) (by omega)
          have HNR := Lib.hid (abs_near (u := uk) (l := vm))
          have HAB := Lib.hid (show 0 ≤ absI (uk - vm) ∧ absI (uk - vm) ≤ 12 by unfold absI; split <;> omega)
          have hHA := Lib.hid hA
          have HRP := Lib.hid (show rawTo j j' a c k ++ rowTo j j' a c uk m = rawTo j j' a c k ++ rowTo j j' a c uk m from rfl)
          clear hA
          generalize absI (uk - vm) = ab at *
          generalize hP : rawTo j j' a c k ++ rowTo j j' a c uk m = Pl at *
          go_wp2_with fail
          have f6 : ∀ p : Later wr.heap.size wr, p.W.cell? ⟨g1, k, none⟩ = some (.int .i64 uk) := Later.cell e1 hw3
          have f7 : ∀ p : Later wr.heap.size wr, p.W.cell? ⟨g2, m, none⟩ = some (.int .i64 vm) := Later.cell e2 hw4
          refine Later.wp_region_later (wr.heap.size) (by kernel_rfl) (by kernel_rfl) ?_
          repeat (first | go_big_quiet_step ((go_at_call 35; exact later_same (hHA.out _))) | quiet_step ((go_at_call 35; exact later_same (hHA.out _))))
          refine wpQuiet_nil ?_
          rintro w5 ⟨q5, hq5⟩
          have b5 := q5.h
          rw [← hq5] at b5
          clear hq5 q5
          clear f6 f7 hwr
          have hG5 := only_below hG b5
          replace hown := own_below hown b5 (Nat.le_refl _)
          replace x0 := (b5.cell (p := ⟨w.heap.size, 0, none⟩) hw0).trans x0
          replace x1 := (b5.cell (p := ⟨w.heap.size, 1, none⟩) hw0).trans x1
          replace x2 := (b5.cell (p := ⟨w.heap.size, 2, none⟩) hw0).trans x2
          replace y0 := (b5.cell (p := ⟨w.heap.size + 1, 0, none⟩) hw1).trans y0
          replace y1 := (b5.cell (p := ⟨w.heap.size + 1, 1, none⟩) hw1).trans y1
          replace y2 := (b5.cell (p := ⟨w.heap.size + 1, 2, none⟩) hw1).trans y2
          replace e1 := (b5.cell (p := ⟨g1, k, none⟩) hw3).trans e1
          replace e2 := (b5.cell (p := ⟨g2, m, none⟩) hw4).trans e2
          have hsz5 := b5.size
          clear b5 hG
          replace hw0 : w.heap.size < w5.heap.size := by omega
          replace hw1 : w.heap.size + 1 < w5.heap.size := by omega
          replace hw3 : g1 < w5.heap.size := by omega
          replace hw4 : g2 < w5.heap.size := by omega
          replace hsz : w4.heap.size ≤ w5.heap.size := by omega
          clear hsz5
          obtain ⟨wq, rfl⟩ : ∃ wq : World, wq = wr := ⟨_, rfl⟩
          obtain ⟨wr, rfl⟩ : ∃ wr : World, wr = w5 := ⟨_, rfl⟩
          by_cases hnear : ab ≤ 2
          · have hd : decide (2 < ab) = false := decide_eq_false (by omega)
            have hnr : near uk vm = true := by rw [HNR.out]; exact decide_eq_true hnear
            have HSTEP := Lib.hid (HYY.out hnr)
            have HONE := Lib.hid (fun W => HON.out uk vm (HMC.out uk vm HMU.out HMV.out hnr) W)
            have X0 := Lib.hid x0
            have X1 := Lib.hid x1
            have X2 := Lib.hid x2
            have Y0 := Lib.hid y0
            have Y1 := Lib.hid y1
            have Y2 := Lib.hid y2
            have E1 := Lib.hid e1
            have E2 := Lib.hid e2
            have HOWN := Lib.hid hown
            have HG5 := Lib.hid hG5
            clear hown hG5 hnr
            unfold encSp at HONE
            generalize hsp : spOf j j' a c (uk, vm) = sp at *
            obtain ⟨su, sl, sP, sq, ss, st⟩ := sp
            dsimp only at HONE
            go_upto_region 13 with fail
            go_cut [11, 12] (fun s11 s12 wx => ∃ T : Nat, wr.heap.size ≤ T ∧ s11 = .pointer (some ⟨T, 0, none⟩) ∧ s12 = .bool true ∧ Six wx T ⟨su, sl, sP, sq, ss, st⟩ ∧ Below wr.heap.size wr wx)
            case first =>
              clear HI HZ0 HZ1 HZ2 HEND HRL HRT HRS HRY HRN HMC HON HR0 HUA HVA HC1 HC2 HX HY HO4 HNX HNY HNG1 HNG2 HUL HVL HN1 HN2 HOW HGG HV HCK HUK HKS HMU HVM HMV HYY HNN HV1 HNR HAB hHA HRP hP HSTEP HOWN HG5 hsz hpl B4 hd hnear
              have ZDX0 := Lib.hid (show wr.drew.cell? ⟨w.heap.size, 0, none⟩ = some (.int .i64 s) from x0)
              have ZDX1 := Lib.hid (show wr.drew.cell? ⟨w.heap.size, 1, none⟩ = some (.int .i64 l) from x1)
              have ZDX2 := Lib.hid (show wr.drew.cell? ⟨w.heap.size, 2, none⟩ = some (.int .i64 j) from x2)
              have ZDY0 := Lib.hid (show wr.drew.cell? ⟨w.heap.size + 1, 0, none⟩ = some (.int .i64 s') from y0)
              have ZDY1 := Lib.hid (show wr.drew.cell? ⟨w.heap.size + 1, 1, none⟩ = some (.int .i64 l') from y1)
              have ZDY2 := Lib.hid (show wr.drew.cell? ⟨w.heap.size + 1, 2, none⟩ = some (.int .i64 j') from y2)
              have ZDE1 := Lib.hid (show wr.drew.cell? ⟨g1, k, none⟩ = some (.int .i64 uk) from e1)
              have ZDE2 := Lib.hid (show wr.drew.cell? ⟨g2, m, none⟩ = some (.int .i64 vm) from e2)
              have ZAX0 := Lib.hid (show (wr.alloc (.cells #[.int .i64 0, .int .i64 0, .int .i64 0, .int .i64 0, .int .i64 0, .int .i64 0] 40)).cell? ⟨w.heap.size, 0, none⟩ = some (.int .i64 s) from (World.cell?_alloc_lt _ _ _ hw0).trans x0)
              have ZAX1 := Lib.hid (show (wr.alloc (.cells #[.int .i64 0, .int .i64 0, .int .i64 0, .int .i64 0, .int .i64 0, .int .i64 0] 40)).cell? ⟨w.heap.size, 1, none⟩ = some (.int .i64 l) from (World.cell?_alloc_lt _ _ _ hw0).trans x1)
              have ZAX2 := Lib.hid (show (wr.alloc (.cells #[.int .i64 0, .int .i64 0, .int .i64 0, .int .i64 0, .int .i64 0, .int .i64 0] 40)).cell? ⟨w.heap.size, 2, none⟩ = some (.int .i64 j) from (World.cell?_alloc_lt _ _ _ hw0).trans x2)
              have ZAY0 := Lib.hid (show (wr.alloc (.cells #[.int .i64 0, .int .i64 0, .int .i64 0, .int .i64 0, .int .i64 0, .int .i64 0] 40)).cell? ⟨w.heap.size + 1, 0, none⟩ = some (.int .i64 s') from (World.cell?_alloc_lt _ _ _ hw1).trans y0)
              have ZAY1 := Lib.hid (show (wr.alloc (.cells #[.int .i64 0, .int .i64 0, .int .i64 0, .int .i64 0, .int .i64 0, .int .i64 0] 40)).cell? ⟨w.heap.size + 1, 1, none⟩ = some (.int .i64 l') from (World.cell?_alloc_lt _ _ _ hw1).trans y1)
              have ZAY2 := Lib.hid (show (wr.alloc (.cells #[.int .i64 0, .int .i64 0, .int .i64 0, .int .i64 0, .int .i64 0, .int .i64 0] 40)).cell? ⟨w.heap.size + 1, 2, none⟩ = some (.int .i64 j') from (World.cell?_alloc_lt _ _ _ hw1).trans y2)
              have ZAE1 := Lib.hid (show (wr.alloc (.cells #[.int .i64 0, .int .i64 0, .int .i64 0, .int .i64 0, .int .i64 0, .int .i64 0] 40)).cell? ⟨g1, k, none⟩ = some (.int .i64 uk) from (World.cell?_alloc_lt _ _ _ hw3).trans e1)
              have ZAE2 := Lib.hid (show (wr.alloc (.cells #[.int .i64 0, .int .i64 0, .int .i64 0, .int .i64 0, .int .i64 0, .int .i64 0] 40)).cell? ⟨g2, m, none⟩ = some (.int .i64 vm) from (World.cell?_alloc_lt _ _ _ hw4).trans e2)
              have ZBX0 := Lib.hid (show (wr.alloc (.cells #[.int .i64 0, .int .i64 0, .int .i64 0, .int .i64 0, .int .i64 0, .int .i64 0] 40)).drew.cell? ⟨w.heap.size, 0, none⟩ = some (.int .i64 s) from (World.cell?_alloc_lt _ _ _ hw0).trans x0)
              have ZBX1 := Lib.hid (show (wr.alloc (.cells #[.int .i64 0, .int .i64 0, .int .i64 0, .int .i64 0, .int .i64 0, .int .i64 0] 40)).drew.cell? ⟨w.heap.size, 1, none⟩ = some (.int .i64 l) from (World.cell?_alloc_lt _ _ _ hw0).trans x1)
              have ZBX2 := Lib.hid (show (wr.alloc (.cells #[.int .i64 0, .int .i64 0, .int .i64 0, .int .i64 0, .int .i64 0, .int .i64 0] 40)).drew.cell? ⟨w.heap.size, 2, none⟩ = some (.int .i64 j) from (World.cell?_alloc_lt _ _ _ hw0).trans x2)
              have ZBY0 := Lib.hid (show (wr.alloc (.cells #[.int .i64 0, .int .i64 0, .int .i64 0, .int .i64 0, .int .i64 0, .int .i64 0] 40)).drew.cell? ⟨w.heap.size + 1, 0, none⟩ = some (.int .i64 s') from (World.cell?_alloc_lt _ _ _ hw1).trans y0)
              have ZBY1 := Lib.hid (show (wr.alloc (.cells #[.int .i64 0, .int .i64 0, .int .i64 0, .int .i64 0, .int .i64 0, .int .i64 0] 40)).drew.cell? ⟨w.heap.size + 1, 1, none⟩ = some (.int .i64 l') from (World.cell?_alloc_lt _ _ _ hw1).trans y1)
              have ZBY2 := Lib.hid (show (wr.alloc (.cells #[.int .i64 0, .int .i64 0, .int .i64 0, .int .i64 0, .int .i64 0, .int .i64 0] 40)).drew.cell? ⟨w.heap.size + 1, 2, none⟩ = some (.int .i64 j') from (World.cell?_alloc_lt _ _ _ hw1).trans y2)
              have ZBE1 := Lib.hid (show (wr.alloc (.cells #[.int .i64 0, .int .i64 0, .int .i64 0, .int .i64 0, .int .i64 0, .int .i64 0] 40)).drew.cell? ⟨g1, k, none⟩ = some (.int .i64 uk) from (World.cell?_alloc_lt _ _ _ hw3).trans e1)
              have ZBE2 := Lib.hid (show (wr.alloc (.cells #[.int .i64 0, .int .i64 0, .int .i64 0, .int .i64 0, .int .i64 0, .int .i64 0] 40)).drew.cell? ⟨g2, m, none⟩ = some (.int .i64 vm) from (World.cell?_alloc_lt _ _ _ hw4).trans e2)
              have HDA : wr.heap.size ≤ wr.drew.heap.size := Nat.le_refl _
              have HDB : wr.heap.size ≤ (wr.alloc (.cells #[.int .i64 0, .int .i64 0, .int .i64 0, .int .i64 0, .int .i64 0, .int .i64 0] 40)).drew.heap.size := by show wr.heap.size ≤ (wr.alloc (.cells #[.int .i64 0, .int .i64 0, .int .i64 0, .int .i64 0, .int .i64 0, .int .i64 0] 40)).heap.size; simp
              have HDC : (wr.alloc (.cells #[.int .i64 0, .int .i64 0, .int .i64 0, .int .i64 0, .int .i64 0, .int .i64 0] 40)).heap.size ≤ (wr.alloc (.cells #[.int .i64 0, .int .i64 0, .int .i64 0, .int .i64 0, .int .i64 0, .int .i64 0] 40)).drew.heap.size := Nat.le_refl _
              go_region_held3 (fun w' => w'.cell? ⟨w.heap.size, 0, none⟩ = some (.int .i64 s) ∧ w'.cell? ⟨w.heap.size, 1, none⟩ = some (.int .i64 l) ∧ w'.cell? ⟨w.heap.size, 2, none⟩ = some (.int .i64 j) ∧ w'.cell? ⟨w.heap.size + 1, 0, none⟩ = some (.int .i64 s') ∧ w'.cell? ⟨w.heap.size + 1, 1, none⟩ = some (.int .i64 l') ∧ w'.cell? ⟨w.heap.size + 1, 2, none⟩ = some (.int .i64 j') ∧ w'.cell? ⟨g1, k, none⟩ = some (.int .i64 uk) ∧ w'.cell? ⟨g2, m, none⟩ = some (.int .i64 vm))
                (first | with_reducible exact ⟨x0, x1, x2, y0, y1, y2, e1, e2⟩ | with_reducible exact ⟨ZDX0.out, ZDX1.out, ZDX2.out, ZDY0.out, ZDY1.out, ZDY2.out, ZDE1.out, ZDE2.out⟩ | with_reducible exact ⟨ZAX0.out, ZAX1.out, ZAX2.out, ZAY0.out, ZAY1.out, ZAY2.out, ZAE1.out, ZAE2.out⟩ | with_reducible exact ⟨ZBX0.out, ZBX1.out, ZBX2.out, ZBY0.out, ZBY1.out, ZBY2.out, ZBE1.out, ZBE2.out⟩ | with_reducible exact ⟨(World.cell?_alloc_lt _ _ _ hv0).trans x0, (World.cell?_alloc_lt _ _ _ hv0).trans x1, (World.cell?_alloc_lt _ _ _ hv0).trans x2, (World.cell?_alloc_lt _ _ _ hv1).trans y0, (World.cell?_alloc_lt _ _ _ hv1).trans y1, (World.cell?_alloc_lt _ _ _ hv1).trans y2, (World.cell?_alloc_lt _ _ _ hv3).trans e1, (World.cell?_alloc_lt _ _ _ hv4).trans e2⟩ | (refine ⟨?_, ?_, ?_, ?_, ?_, ?_, ?_, ?_⟩ <;> (rw [World.cell?_setCell_far _ _ _ _ (by first | exact Nat.ne_of_gt hw0 | exact Nat.ne_of_gt hw1 | exact Nat.ne_of_gt hw3 | exact Nat.ne_of_gt hw4), World.cell?_setCell_far _ _ _ _ (by first | exact Nat.ne_of_gt hw0 | exact Nat.ne_of_gt hw1 | exact Nat.ne_of_gt hw3 | exact Nat.ne_of_gt hw4), World.cell?_setCell_far _ _ _ _ (by first | exact Nat.ne_of_gt hw0 | exact Nat.ne_of_gt hw1 | exact Nat.ne_of_gt hw3 | exact Nat.ne_of_gt hw4), World.cell?_setCell_far _ _ _ _ (by first | exact Nat.ne_of_gt hw0 | exact Nat.ne_of_gt hw1 | exact Nat.ne_of_gt hw3 | exact Nat.ne_of_gt hw4), World.cell?_setCell_far _ _ _ _ (by first | exact Nat.ne_of_gt hw0 | exact Nat.ne_of_gt hw1 | exact Nat.ne_of_gt hw3 | exact Nat.ne_of_gt hw4), World.cell?_setCell_far _ _ _ _ (by first | exact Nat.ne_of_gt hw0 | exact Nat.ne_of_gt hw1 | exact Nat.ne_of_gt hw3 | exact Nat.ne_of_gt hw4)]; with_reducible assumption)))
                (first | ((with_reducible refine (HONE.out _).mono ?_); rintro e w2x ⟨rfl, b2'⟩; have BX2 : Below wr.heap.size wr w2x := (by with_reducible exact Below.trans (Below.drew (Below.refl wr.heap.size wr)) (Below.mono b2' HDA)); clear b2'; have x0 := (BX2.cell (p := ⟨w.heap.size, 0, none⟩) hw0).trans X0.out; have x1 := (BX2.cell (p := ⟨w.heap.size, 1, none⟩) hw0).trans X1.out; have x2 := (BX2.cell (p := ⟨w.heap.size, 2, none⟩) hw0).trans X2.out; have y0 := (BX2.cell (p := ⟨w.heap.size + 1, 0, none⟩) hw1).trans Y0.out; have y1 := (BX2.cell (p := ⟨w.heap.size + 1, 1, none⟩) hw1).trans Y1.out; have y2 := (BX2.cell (p := ⟨w.heap.size + 1, 2, none⟩) hw1).trans Y2.out; have e1 := (BX2.cell (p := ⟨g1, k, none⟩) hw3).trans E1.out; have e2 := (BX2.cell (p := ⟨g2, m, none⟩) hw4).trans E2.out;have hv0 := Nat.lt_of_lt_of_le hw0 BX2.size; have hv1 := Nat.lt_of_lt_of_le hw1 BX2.size; have hv3 := Nat.lt_of_lt_of_le hw3 BX2.size; have hv4 := Nat.lt_of_lt_of_le hw4 BX2.size; skip)
                       | ((with_reducible refine (HONE.out _).mono ?_); rintro e w2x ⟨rfl, b2'⟩; have BX2 : Below wr.heap.size wr w2x := (by with_reducible exact Below.trans (Below.drew (Below.alloc (Below.refl wr.heap.size wr) (Nat.le_refl _) (.cells #[.int .i64 0, .int .i64 0, .int .i64 0, .int .i64 0, .int .i64 0, .int .i64 0] 40))) (Below.mono b2' HDB)); have TX2 := Lib.hid ((Six.new wr 0 0 0 0 0 0).below (Below.trans (Below.drew (Below.refl (wr.alloc (.cells #[.int .i64 0, .int .i64 0, .int .i64 0, .int .i64 0, .int .i64 0, .int .i64 0] 40)).heap.size (wr.alloc (.cells #[.int .i64 0, .int .i64 0, .int .i64 0, .int .i64 0, .int .i64 0, .int .i64 0] 40)))) (Below.mono b2' HDC)) (Six.new wr 0 0 0 0 0 0).2.2.2.2.2.2.2.2.2.2.2.2); clear b2'; obtain ⟨tc0, tc1, tc2, tc3, tc4, tc5, tf0, tf1, tf2, tf3, tf4, tf5, _⟩ := TX2.out; have x0 := (BX2.cell (p := ⟨w.heap.size, 0, none⟩) hw0).trans X0.out; have x1 := (BX2.cell (p := ⟨w.heap.size, 1, none⟩) hw0).trans X1.out; have x2 := (BX2.cell (p := ⟨w.heap.size, 2, none⟩) hw0).trans X2.out; have y0 := (BX2.cell (p := ⟨w.heap.size + 1, 0, none⟩) hw1).trans Y0.out; have y1 := (BX2.cell (p := ⟨w.heap.size + 1, 1, none⟩) hw1).trans Y1.out; have y2 := (BX2.cell (p := ⟨w.heap.size + 1, 2, none⟩) hw1).trans Y2.out; have e1 := (BX2.cell (p := ⟨g1, k, none⟩) hw3).trans E1.out; have e2 := (BX2.cell (p := ⟨g2, m, none⟩) hw4).trans E2.out; skip))
              · go_wp2_with fail
                go_meet
                exact ⟨_, BX2.size, rfl, rfl, Six.new _ _ _ _ _ _ _, BX2.alloc BX2.size _⟩
              · go_wp2_with fail
                go_meet
                exact ⟨_, Nat.le_refl _, rfl, rfl, Six.put TX2.out _ _ _ _ _ _, (((((BX2.setCell (p := ⟨wr.heap.size, 0, none⟩) (Nat.le_refl _) _).setCell (p := ⟨wr.heap.size, 1, none⟩) (Nat.le_refl _) _).setCell (p := ⟨wr.heap.size, 2, none⟩) (Nat.le_refl _) _).setCell (p := ⟨wr.heap.size, 3, none⟩) (Nat.le_refl _) _).setCell (p := ⟨wr.heap.size, 4, none⟩) (Nat.le_refl _) _).setCell (p := ⟨wr.heap.size, 5, none⟩) (Nat.le_refl _) _⟩

            case rest =>
              obtain ⟨Tn, hTn, rfl, rfl, T6, B6⟩ := hcut
              obtain ⟨w6, rfl⟩ : ∃ x : World, x = wc := ⟨_, rfl⟩
              have O6 := own_below HOWN.out B6 (Nat.le_refl _)
              have G6 := only_below HG5.out B6
              have hs6 := B6.size
              obtain ⟨tc0, tc1, tc2, tc3, tc4, tc5, _, _, _, _, _, _, tlt⟩ := T6
              clear x0 x1 x2 y0 y1 y2 e1 e2 hw0 hw1 hw3 hw4 B6
              go_wp2_with (at_builtin; refine wpList_append_lies _ rfl _ _ 29 rfl w.heap.size 40 i0 (.agg #[.int .i64 0, .int .i64 0, .int .i64 0, .int .i64 0, .int .i64 0, .int .i64 0]) 6 48 Tryd.underlying29 HI.out HZ0.out HZ1.out HZ2.out rfl (by decide) _ _ _ rfl (O6.alloc _) ⟨w6.heap.size, 0, none⟩ 1 1 [.int .i64 su, .int .i64 sl, .int .i64 sP, .int .i64 sq, .int .i64 ss, .int .i64 st] rfl rfl (cells_new _ _ _) (by simp [Value.oneCell']) (by omega) (by unfold maxLen; omega) (by omega) (by simp; omega) (w6.heap.size + 1) (by simp) ?_)
              intro gg cap w7 hown1 hgrow hat hltg
              have hG7 := only_step G6 HV1.out hgrow
              have O7 : w7.ownsRow w.heap.size 40 6 (.slice (some ⟨gg, 0, none⟩) (Pl.length + 1) cap) (Pl ++ [(⟨su, sl, sP, sq, ss, st⟩ : Sp)]).length ((Pl ++ [(⟨su, sl, sP, sq, ss, st⟩ : Sp)]).flatMap encSp) := by
                rw [List.flatMap_append, List.length_append]
                exact hown1
              have HV7 := Lib.hid (only_at (n := Pl.length + 1) (c := cap) G6 HV1.out hat (by omega))
              have HL := Lib.hid (show Pl ++ [(⟨su, sl, sP, sq, ss, st⟩ : Sp)] = rawTo j j' a c k ++ rowTo j j' a c uk (m + 1) by rw [HSTEP.out, ← List.append_assoc, hP])
              rw [HL.out] at O7
              clear hgrow hown1 hat HV1 tc0 tc1 tc2 tc3 tc4 tc5 O6 G6
              go_wp2
              go_roundw
              case rel => first | exact ⟨m + 1, _, rfl, by omega, by go_num, ⟨O7, hG7, HV7.out⟩⟩ | ((repeat apply Exists.intro); exact ⟨⟨m + 1, _, rfl, by omega, by go_num, ⟨O7, hG7, HV7.out⟩⟩, rfl⟩)
              case measure => simp [intOf]; omega
          · have hd : decide (2 < ab) = true := decide_eq_true (by omega)
            have hnr : near uk vm = false := by rw [HNR.out]; exact decide_eq_false hnear
            have HSTEP := Lib.hid (show Pl = rawTo j j' a c k ++ rowTo j j' a c uk (m + 1) by rw [HNN.out hnr, hP])
            rw [HSTEP.out] at hown
            have hfar : 2 < ab := by omega
            clear x0 x1 x2 y0 y1 y2 e1 e2 hnr hnear
            go_wp2
            go_roundw
            case rel => first | exact ⟨m + 1, v1, rfl, by omega, by go_num, ⟨hown, hG5, HV1.out⟩⟩ | ((repeat apply Exists.intro); exact ⟨⟨m + 1, v1, rfl, by omega, by go_num, ⟨hown, hG5, HV1.out⟩⟩, rfl⟩)
            case measure => simp [intOf]; omega
        · obtain rfl : m = n2 := by omega
          rw [← HKS.out] at hown
          go_wp2
          go_roundw
          case rel => first | exact ⟨k + 1, v1, rfl, by omega, by go_num, ⟨hown, hG, HV1.out⟩⟩ | ((repeat apply Exists.intro); exact ⟨⟨k + 1, v1, rfl, by omega, by go_num, ⟨hown, hG, HV1.out⟩⟩, rfl⟩)
          case measure => simp [intOf]; omega
    · obtain rfl : k = n1 := by omega
      rw [HEND.out] at HOW
      have hB := below_only B4 HGG.out B4.size (by rintro g ⟨⟩; omega)
      go_wp2
      refine bodyPost_ret (v := .tuple #[v0, .bool true]) (by simp [results, Tryd.results10, go_sem]) rfl ⟨_, rfl, HOW.out, hB⟩
end Go.Proofs.YtpollgibgphipaaDoor.SplS
