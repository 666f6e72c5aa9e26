/-
  The walk of the law FnStrengthRatio.
-/
import Derived.Test.YthinhhfegflmmaaStrW
import Derived.Test.YthinhhfegflmmaaOpenRows
import Derived.Deep.DeepCutAuto
namespace Go.Proofs.Ythinhhfegflmmaa.WFnStrengthRatio
open Go.Proofs.Ythinhhfegflmmaa.DrawTerm Go.RowKit Go.Proofs.Ythinhhfegflmmaa.RatP Go.Proofs.Ythinhhfegflmmaa.Rat Go.Proofs.Ythinhhfegflmmaa.ChoP Go.Proofs.Ythinhhfegflmmaa.StrP Go.Proofs.Ythinhhfegflmmaa.Spin Go.Proofs.Ythinhhfegflmmaa.Row Go.Proofs.Ythinhhfegflmmaa.Coupled Go.Proofs.Ythinhhfegflmmaa.Later Go.Proofs.Ythinhhfegflmmaa.Two Go.Proofs.Ythinhhfegflmmaa.Rd Go.Proofs.Ythinhhfegflmmaa.StrengthS Go.Proofs.Ythinhhfegflmmaa.StrengthI Go.Proofs.Ythinhhfegflmmaa.DrawStr Go.Proofs.Ythinhhfegflmmaa.StrW Go.Proofs.Ythinhhfegflmmaa.WFnAllowedStrength
set_option linter.unusedVariables false
set_option linter.unusedSimpArgs false

theorem ratio_facts {s l j s' l' : Int} (hs : 0 ≤ s ∧ s ≤ 3) (hl : 0 ≤ l ∧ l ≤ 2) (hl' : 0 ≤ l' ∧ l' ≤ 4) (h : (strSum s l j s' l').ok = true) : (∀ i ∈ levelJs s l, (strSum s l i s' l').ok = true → (mulR (strSum s l j s' l').n (strSum s l j s' l').d (i + 1) 1).ok = true ∧ mulR (strSum s l j s' l').n (strSum s l j s' l').d (i + 1) 1 = mulR (strSum s l i s' l').n (strSum s l i s' l').d (j + 1) 1) := by
  obtain ⟨h0, rfl⟩ := strSum_parts h
  have h1 := lvls_at ratio_law hs hl hl' h0
  unfold ratioLaw at h1
  rw [h] at h1
  simp only [Bool.not_true, Bool.false_or] at h1
  intro i hi hok
  have h2 := List.all_eq_true.1 h1 i hi
  rw [hok] at h2
  simpa using h2
set_option maxRecDepth 100000 in
set_option maxHeartbeats 8000000 in
theorem fnStrengthRatio (a : Option Addr) (n c : Nat) (zs : List Int) (a2 : Option Addr) (n2 c2 : Nat) (zs2 : List Int) (w0 : World) (h : IsRow .u8 w0 a n c zs) (h2 : IsRow .u8 w0 a2 n2 c2 zs2) :
    Calls Try.prog 3 #[.slice a n c, .slice a2 n2 c2] w0 (Yes w0) := by
  have HO := Lib.hid (drawStrengthSum a n c zs w0 h)
  clear h h2
  by_cases hn : 1048576 < n
  · go_enter Try.func3, Try.ntmps3
    go_wp2_with fail
    go_ret
    exact ⟨rfl, Below.refl _ _⟩
  have hd1 : decide ((1048576 : Int) < (n : Int)) = false := decide_eq_false (by omega)
  by_cases hn2 : 1048576 < n2
  · have hd2 : decide ((1048576 : Int) < (n2 : Int)) = true := decide_eq_true (by omega)
    go_enter Try.func3, Try.ntmps3
    go_wp2_with fail
    all_goals go_ret
    all_goals exact ⟨rfl, Below.refl _ _⟩
  have hd2 : decide ((1048576 : Int) < (n2 : Int)) = false := decide_eq_false (by omega)
  go_enter Try.func3, Try.ntmps3
  go_wp2_with fail
  refine HO.out.mono ?_
  rintro e w ⟨s1, l1, j1, s2, l2, j2, hb1, hb2, rfl, hb0⟩
  clear HO hn hn2 hd1 hd2
  have HI := Lib.hid (fun W => iStrengthSum s1 l1 j1 s2 l2 W sumGives)
  have HS := Lib.hid (fun W => sStrengthSum s1 l1 j1 s2 l2 W)
  have HW := Lib.hid (fun n W => lwhole n W)
  have hfacts := @ratio_facts s1 l1 j1 s2 l2 (by omega) (by omega) (by omega)
  have HZ := Lib.hid (fun i W => iStrengthSum s1 l1 i s2 l2 W sumGives)
  have HLV := Lib.hid (fun W => iLevelsOf s1 l1 W)
  obtain ⟨jp, jb⟩ := js_pos s1 l1 (by omega) (by omega) (by omega) (by omega)
  have hj1 : 0 ≤ j1 ∧ j1 ≤ 31 := (by omega)
  have HJB := Lib.hid jb
  clear hb1 hb2 jb
  unfold roV at HI HS
  generalize strSum s1 l1 j1 s2 l2 = r at *
  obtain ⟨rn, rd, rok⟩ := r
  cases rok
  · clear hfacts HW HZ HLV
    go_wp2_with fail
    (with_reducible refine (HI.out _).mono ?_)
    rintro e w2 ⟨rfl, b2⟩
    have hz2 := b2.size
    obtain ⟨hc2, hf2⟩ := bcell b2
    have B2 : Below w.heap.size w w2 := Below.trans (by repeat (first | (with_reducible refine Below.drew ?_) | (with_reducible refine below_drewN ?_ _) | (with_reducible refine Below.alloc ?_ ?_ _) | (with_reducible refine Below.setCell ?_ ?_ _) | (with_reducible assumption) | (with_reducible exact Below.refl _ _) | omega | (simp <;> omega))) (b2.mono (by first | omega | (simp <;> omega)))
    (try simp at hz2)
    have hy2 : w.heap.size < w2.heap.size := by omega
    clear b2
    have hx2 : w.heap.size + 1 < w2.heap.size := by omega
    go_wp2_with fail
    (with_reducible refine (HS.out _).mono ?_)
    rintro e w3 ⟨rfl, b3⟩
    have hz3 := b3.size
    obtain ⟨hc3, hf3⟩ := bcell b3
    have B3 : Below w.heap.size w w3 := Below.trans (by repeat (first | (with_reducible refine Below.drew ?_) | (with_reducible refine below_drewN ?_ _) | (with_reducible refine Below.alloc ?_ ?_ _) | (with_reducible refine Below.setCell ?_ ?_ _) | (with_reducible assumption) | (with_reducible exact Below.refl _ _) | omega | (simp <;> omega))) (b3.mono (by first | omega | (simp <;> omega)))
    (try simp at hz3)
    have hy3 : w.heap.size < w3.heap.size := by omega
    clear b3
    have hx3 : w.heap.size + 1 < w3.heap.size := by omega
    have hq3 : w2.heap.size < w3.heap.size := by omega
    have kc3_0_0 : w3.cell? ⟨w2.heap.size, 0, none⟩ = some (.int .i64 rn) := (hc3 (w2.heap.size) 0 (by first | omega | (simp <;> omega))).trans (by first | (simp; done) | (simp [*]; done) | (simp [*, World.cell?_alloc_at, World.cell?_alloc_past, World.cell?_alloc_lt, lt2, lt3, lt4]; done))
    have kc3_1_0 : w3.cell? ⟨w2.heap.size, 1, none⟩ = some (.int .i64 rd) := (hc3 (w2.heap.size) 1 (by first | omega | (simp <;> omega))).trans (by first | (simp; done) | (simp [*]; done) | (simp [*, World.cell?_alloc_at, World.cell?_alloc_past, World.cell?_alloc_lt, lt2, lt3, lt4]; done))
    go_wp2
    all_goals go_ret
    all_goals exact ⟨by simp, hb0.trans (Below.mono (by repeat (first | (with_reducible refine Below.drew ?_) | (with_reducible refine below_drewN ?_ _) | (with_reducible refine Below.alloc ?_ ?_ _) | (with_reducible refine Below.setCell ?_ ?_ _) | (with_reducible assumption) | (with_reducible exact Below.refl _ _) | omega | (simp <;> omega))) hb0.size)⟩
  · have HFS := Lib.hid (hfacts rfl)
    clear hfacts
    go_wp2_with fail
    (with_reducible refine (HI.out _).mono ?_)
    rintro e w2 ⟨rfl, b2⟩
    have hz2 := b2.size
    obtain ⟨hc2, hf2⟩ := bcell b2
    have B2 : Below w.heap.size w w2 := Below.trans (by repeat (first | (with_reducible refine Below.drew ?_) | (with_reducible refine below_drewN ?_ _) | (with_reducible refine Below.alloc ?_ ?_ _) | (with_reducible refine Below.setCell ?_ ?_ _) | (with_reducible assumption) | (with_reducible exact Below.refl _ _) | omega | (simp <;> omega))) (b2.mono (by first | omega | (simp <;> omega)))
    (try simp at hz2)
    have hy2 : w.heap.size < w2.heap.size := by omega
    clear b2
    have hx2 : w.heap.size + 1 < w2.heap.size := by omega
    have kc2_0_0 : w2.cell? ⟨w.heap.size, 0, none⟩ = some (.int .i64 s1) := (hc2 (w.heap.size) 0 (by first | omega | (simp <;> omega))).trans (by first | (simp; done) | (simp [*]; done) | (simp [*, World.cell?_alloc_at, World.cell?_alloc_past, World.cell?_alloc_lt, lt2, lt3, lt4]; done))
    have kc2_1_0 : w2.cell? ⟨w.heap.size, 1, none⟩ = some (.int .i64 l1) := (hc2 (w.heap.size) 1 (by first | omega | (simp <;> omega))).trans (by first | (simp; done) | (simp [*]; done) | (simp [*, World.cell?_alloc_at, World.cell?_alloc_past, World.cell?_alloc_lt, lt2, lt3, lt4]; done))
    have kc2_2_0 : w2.cell? ⟨w.heap.size, 2, none⟩ = some (.int .i64 j1) := (hc2 (w.heap.size) 2 (by first | omega | (simp <;> omega))).trans (by first | (simp; done) | (simp [*]; done) | (simp [*, World.cell?_alloc_at, World.cell?_alloc_past, World.cell?_alloc_lt, lt2, lt3, lt4]; done))
    have kc2_0_1 : w2.cell? ⟨w.heap.size + 1, 0, none⟩ = some (.int .i64 s2) := (hc2 (w.heap.size + 1) 0 (by first | omega | (simp <;> omega))).trans (by first | (simp; done) | (simp [*]; done) | (simp [*, World.cell?_alloc_at, World.cell?_alloc_past, World.cell?_alloc_lt, lt2, lt3, lt4]; done))
    have kc2_1_1 : w2.cell? ⟨w.heap.size + 1, 1, none⟩ = some (.int .i64 l2) := (hc2 (w.heap.size + 1) 1 (by first | omega | (simp <;> omega))).trans (by first | (simp; done) | (simp [*]; done) | (simp [*, World.cell?_alloc_at, World.cell?_alloc_past, World.cell?_alloc_lt, lt2, lt3, lt4]; done))
    go_wp2_with fail
    (with_reducible refine (HS.out _).mono ?_)
    rintro e w3 ⟨rfl, b3⟩
    have hz3 := b3.size
    obtain ⟨hc3, hf3⟩ := bcell b3
    have B3 : Below w.heap.size w w3 := Below.trans (by repeat (first | (with_reducible refine Below.drew ?_) | (with_reducible refine below_drewN ?_ _) | (with_reducible refine Below.alloc ?_ ?_ _) | (with_reducible refine Below.setCell ?_ ?_ _) | (with_reducible assumption) | (with_reducible exact Below.refl _ _) | omega | (simp <;> omega))) (b3.mono (by first | omega | (simp <;> omega)))
    (try simp at hz3)
    have hy3 : w.heap.size < w3.heap.size := by omega
    clear b3
    have hx3 : w.heap.size + 1 < w3.heap.size := by omega
    have hq3 : w2.heap.size < w3.heap.size := by omega
    have kc3_0_0 : w3.cell? ⟨w2.heap.size, 0, none⟩ = some (.int .i64 rn) := (hc3 (w2.heap.size) 0 (by first | omega | (simp <;> omega))).trans (by first | (simp; done) | (simp [*]; done) | (simp [*, World.cell?_alloc_at, World.cell?_alloc_past, World.cell?_alloc_lt, lt2, lt3, lt4]; done))
    have kc3_1_0 : w3.cell? ⟨w2.heap.size, 1, none⟩ = some (.int .i64 rd) := (hc3 (w2.heap.size) 1 (by first | omega | (simp <;> omega))).trans (by first | (simp; done) | (simp [*]; done) | (simp [*, World.cell?_alloc_at, World.cell?_alloc_past, World.cell?_alloc_lt, lt2, lt3, lt4]; done))
    have kd30 := kc3_0_0
    have kd31 := kc3_1_0
    clear kc3_0_0 kc3_1_0
    have kc3_0_0 : w3.cell? ⟨w.heap.size, 0, none⟩ = some (.int .i64 s1) := (hc3 (w.heap.size) 0 (by first | omega | (simp <;> omega))).trans (by first | (simp; done) | (simp [*]; done) | (simp [*, World.cell?_alloc_at, World.cell?_alloc_past, World.cell?_alloc_lt, lt2, lt3, lt4]; done))
    have kc3_1_0 : w3.cell? ⟨w.heap.size, 1, none⟩ = some (.int .i64 l1) := (hc3 (w.heap.size) 1 (by first | omega | (simp <;> omega))).trans (by first | (simp; done) | (simp [*]; done) | (simp [*, World.cell?_alloc_at, World.cell?_alloc_past, World.cell?_alloc_lt, lt2, lt3, lt4]; done))
    have kc3_2_0 : w3.cell? ⟨w.heap.size, 2, none⟩ = some (.int .i64 j1) := (hc3 (w.heap.size) 2 (by first | omega | (simp <;> omega))).trans (by first | (simp; done) | (simp [*]; done) | (simp [*, World.cell?_alloc_at, World.cell?_alloc_past, World.cell?_alloc_lt, lt2, lt3, lt4]; done))
    have kc3_0_1 : w3.cell? ⟨w.heap.size + 1, 0, none⟩ = some (.int .i64 s2) := (hc3 (w.heap.size + 1) 0 (by first | omega | (simp <;> omega))).trans (by first | (simp; done) | (simp [*]; done) | (simp [*, World.cell?_alloc_at, World.cell?_alloc_past, World.cell?_alloc_lt, lt2, lt3, lt4]; done))
    have kc3_1_1 : w3.cell? ⟨w.heap.size + 1, 1, none⟩ = some (.int .i64 l2) := (hc3 (w.heap.size + 1) 1 (by first | omega | (simp <;> omega))).trans (by first | (simp; done) | (simp [*]; done) | (simp [*, World.cell?_alloc_at, World.cell?_alloc_past, World.cell?_alloc_lt, lt2, lt3, lt4]; done))
    go_wp2_with fail
    (with_reducible refine (HLV.out _).mono ?_)
    rintro e w4 ⟨v4, rfl, O4, b4⟩
    have hz4 := b4.size
    obtain ⟨hc4, hf4⟩ := bcell b4
    have B4 : Below w.heap.size w w4 := Below.trans (by repeat (first | (with_reducible refine Below.drew ?_) | (with_reducible refine below_drewN ?_ _) | (with_reducible refine Below.alloc ?_ ?_ _) | (with_reducible refine Below.setCell ?_ ?_ _) | (with_reducible assumption) | (with_reducible exact Below.refl _ _) | omega | (simp <;> omega))) (b4.mono (by first | omega | (simp <;> omega)))
    (try simp at hz4)
    clear b4
    have hx4 : w.heap.size + 1 < w4.heap.size := by omega
    have hy4 : w.heap.size < w4.heap.size := by omega
    have hq4 : w2.heap.size < w4.heap.size := by omega
    have kc4_0_0 : w4.cell? ⟨w2.heap.size, 0, none⟩ = some (.int .i64 rn) := (hc4 (w2.heap.size) 0 (by first | omega | (simp <;> omega))).trans (by first | (simp; done) | (simp [*]; done) | (simp [*, World.cell?_alloc_at, World.cell?_alloc_past, World.cell?_alloc_lt, lt2, lt3, lt4]; done))
    have kc4_1_0 : w4.cell? ⟨w2.heap.size, 1, none⟩ = some (.int .i64 rd) := (hc4 (w2.heap.size) 1 (by first | omega | (simp <;> omega))).trans (by first | (simp; done) | (simp [*]; done) | (simp [*, World.cell?_alloc_at, World.cell?_alloc_past, World.cell?_alloc_lt, lt2, lt3, lt4]; done))
    have kd40 := kc4_0_0
    have kd41 := kc4_1_0
    clear kc4_0_0 kc4_1_0
    have kc4_0_0 : w4.cell? ⟨w.heap.size, 0, none⟩ = some (.int .i64 s1) := (hc4 (w.heap.size) 0 (by first | omega | (simp <;> omega))).trans (by first | (simp; done) | (simp [*]; done) | (simp [*, World.cell?_alloc_at, World.cell?_alloc_past, World.cell?_alloc_lt, lt2, lt3, lt4]; done))
    have kc4_1_0 : w4.cell? ⟨w.heap.size, 1, none⟩ = some (.int .i64 l1) := (hc4 (w.heap.size) 1 (by first | omega | (simp <;> omega))).trans (by first | (simp; done) | (simp [*]; done) | (simp [*, World.cell?_alloc_at, World.cell?_alloc_past, World.cell?_alloc_lt, lt2, lt3, lt4]; done))
    have kc4_2_0 : w4.cell? ⟨w.heap.size, 2, none⟩ = some (.int .i64 j1) := (hc4 (w.heap.size) 2 (by first | omega | (simp <;> omega))).trans (by first | (simp; done) | (simp [*]; done) | (simp [*, World.cell?_alloc_at, World.cell?_alloc_past, World.cell?_alloc_lt, lt2, lt3, lt4]; done))
    have kc4_0_1 : w4.cell? ⟨w.heap.size + 1, 0, none⟩ = some (.int .i64 s2) := (hc4 (w.heap.size + 1) 0 (by first | omega | (simp <;> omega))).trans (by first | (simp; done) | (simp [*]; done) | (simp [*, World.cell?_alloc_at, World.cell?_alloc_past, World.cell?_alloc_lt, lt2, lt3, lt4]; done))
    have kc4_1_1 : w4.cell? ⟨w.heap.size + 1, 1, none⟩ = some (.int .i64 l2) := (hc4 (w.heap.size + 1) 1 (by first | omega | (simp <;> omega))).trans (by first | (simp; done) | (simp [*]; done) | (simp [*, World.cell?_alloc_at, World.cell?_alloc_past, World.cell?_alloc_lt, lt2, lt3, lt4]; done))
    generalize levelJs s1 l1 = js at *
    obtain ⟨g, cs, rfl, hg0, hg1, hgc, hgm, hcell⟩ := own_level O4 jp
    clear O4 hc2 hc3 hf2 hf3 hc4 hf4
    obtain ⟨M, hM⟩ : ∃ M, M = js.length := ⟨_, rfl⟩
    rw [← hM] at jp hgc ⊢
    obtain ⟨k, hkd⟩ : ∃ k : Nat, k = n2 % M := ⟨_, rfl⟩
    have hkM : k < M := by rw [hkd]; exact Nat.mod_lt _ jp
    have hre : (n2 : Int) % (M : Int) = (k : Int) := by rw [hkd]; exact (Int.natCast_emod n2 M).symm
    have hkl : k < js.length := by omega
    obtain ⟨x0, x1, x2⟩ := hcell k hkl
    have hji := HJB.out _ (List.getElem_mem hkl)
    have hrf := HFS.out _ (List.getElem_mem hkl)
    have HZ2 := Lib.hid (HZ.out js[k])
    generalize js[k] = i at *
    clear HZ HFS HJB HLV hcell hkd
    have hM0 : (0 : Int) < (M : Int) := by omega
    have hkM' : (k : Int) < (M : Int) := by omega
    have hk0 : (0 : Int) ≤ (k : Int) := by omega
    clear hM
    unfold roV at HZ2
    generalize strSum s1 l1 i s2 l2 = z at *
    obtain ⟨zn, zd, zok⟩ := z
    go_wp2_with fail
    (with_reducible refine (HZ2.out _).mono ?_)
    rintro e w5 ⟨rfl, b5⟩
    have hz5 := b5.size
    obtain ⟨hc5, hf5⟩ := bcell b5
    have B5 : Below w.heap.size w w5 := Below.trans (by repeat (first | (with_reducible refine Below.drew ?_) | (with_reducible refine below_drewN ?_ _) | (with_reducible refine Below.alloc ?_ ?_ _) | (with_reducible refine Below.setCell ?_ ?_ _) | (with_reducible assumption) | (with_reducible exact Below.refl _ _) | omega | (simp <;> omega))) (b5.mono (by first | omega | (simp <;> omega)))
    (try simp at hz5)
    have hy5 : w.heap.size < w5.heap.size := by omega
    clear b5
    have hx5 : w.heap.size + 1 < w5.heap.size := by omega
    have hq5 : w2.heap.size < w5.heap.size := by omega
    have kc5_0_0 : w5.cell? ⟨w2.heap.size, 0, none⟩ = some (.int .i64 rn) := (hc5 (w2.heap.size) 0 (by first | omega | (simp <;> omega))).trans (by first | (simp; done) | (simp [*]; done) | (simp [*, World.cell?_alloc_at, World.cell?_alloc_past, World.cell?_alloc_lt, lt2, lt3, lt4]; done))
    have kc5_1_0 : w5.cell? ⟨w2.heap.size, 1, none⟩ = some (.int .i64 rd) := (hc5 (w2.heap.size) 1 (by first | omega | (simp <;> omega))).trans (by first | (simp; done) | (simp [*]; done) | (simp [*, World.cell?_alloc_at, World.cell?_alloc_past, World.cell?_alloc_lt, lt2, lt3, lt4]; done))
    have kd50 := kc5_0_0
    have kd51 := kc5_1_0
    clear kc5_0_0 kc5_1_0
    have kc5_0_0 : w5.cell? ⟨w.heap.size, 0, none⟩ = some (.int .i64 s1) := (hc5 (w.heap.size) 0 (by first | omega | (simp <;> omega))).trans (by first | (simp; done) | (simp [*]; done) | (simp [*, World.cell?_alloc_at, World.cell?_alloc_past, World.cell?_alloc_lt, lt2, lt3, lt4]; done))
    have kc5_1_0 : w5.cell? ⟨w.heap.size, 1, none⟩ = some (.int .i64 l1) := (hc5 (w.heap.size) 1 (by first | omega | (simp <;> omega))).trans (by first | (simp; done) | (simp [*]; done) | (simp [*, World.cell?_alloc_at, World.cell?_alloc_past, World.cell?_alloc_lt, lt2, lt3, lt4]; done))
    have kc5_2_0 : w5.cell? ⟨w.heap.size, 2, none⟩ = some (.int .i64 j1) := (hc5 (w.heap.size) 2 (by first | omega | (simp <;> omega))).trans (by first | (simp; done) | (simp [*]; done) | (simp [*, World.cell?_alloc_at, World.cell?_alloc_past, World.cell?_alloc_lt, lt2, lt3, lt4]; done))
    have KJ := kc5_2_0
    have kc5_0_0 : w5.cell? ⟨w4.heap.size, 0, none⟩ = some (.int .i64 s1) := (hc5 (w4.heap.size) 0 (by first | omega | (simp <;> omega))).trans (by first | (simp; done) | (simp [*]; done) | (simp [*, World.cell?_alloc_at, World.cell?_alloc_past, World.cell?_alloc_lt, lt2, lt3, lt4]; done))
    have kc5_1_0 : w5.cell? ⟨w4.heap.size, 1, none⟩ = some (.int .i64 l1) := (hc5 (w4.heap.size) 1 (by first | omega | (simp <;> omega))).trans (by first | (simp; done) | (simp [*]; done) | (simp [*, World.cell?_alloc_at, World.cell?_alloc_past, World.cell?_alloc_lt, lt2, lt3, lt4]; done))
    have kc5_2_0 : w5.cell? ⟨w4.heap.size, 2, none⟩ = some (.int .i64 i) := (hc5 (w4.heap.size) 2 (by first | omega | (simp <;> omega))).trans (by first | (simp; done) | (simp [*]; done) | (simp [*, World.cell?_alloc_at, World.cell?_alloc_past, World.cell?_alloc_lt, lt2, lt3, lt4]; done))
    go_upto_region 11 with fail
    obtain ⟨wr, hwr⟩ : ∃ x, x = w5.alloc (.cells #[.int .i64 zn, .int .i64 zd] 30) := ⟨_, rfl⟩
    have hE : w5.heap.size < wr.heap.size := by rw [hwr]; simp
    have hA : w2.heap.size < wr.heap.size := Nat.lt_trans hq5 hE
    have hq45 : w4.heap.size < w5.heap.size := by omega
    have hC : w4.heap.size < wr.heap.size := Nat.lt_trans hq45 hE
    have hD : w.heap.size < wr.heap.size := Nat.lt_trans hy5 hE
    have X0 := Lib.hid (show wr.cell? ⟨w2.heap.size, 0, none⟩ = some (.int .i64 rn) by rw [hwr]; exact (World.cell?_alloc_lt _ _ _ hq5).trans kd50)
    have X1 := Lib.hid (show wr.cell? ⟨w2.heap.size, 1, none⟩ = some (.int .i64 rd) by rw [hwr]; exact (World.cell?_alloc_lt _ _ _ hq5).trans kd51)
    have X2 := Lib.hid (show wr.cell? ⟨w4.heap.size, 2, none⟩ = some (.int .i64 i) by rw [hwr]; exact (World.cell?_alloc_lt _ _ _ hq45).trans kc5_2_0)
    have X3 := Lib.hid (show wr.cell? ⟨w.heap.size, 2, none⟩ = some (.int .i64 j1) by rw [hwr]; exact (World.cell?_alloc_lt _ _ _ hy5).trans KJ)
    have X4 := Lib.hid (show wr.cell? ⟨w5.heap.size, 0, none⟩ = some (.int .i64 zn) by rw [hwr]; simp)
    have X5 := Lib.hid (show wr.cell? ⟨w5.heap.size, 1, none⟩ = some (.int .i64 zd) by rw [hwr]; simp)
    have BR : Below w.heap.size w wr := by rw [hwr]; exact B5.alloc B5.size _
    rw [← hwr]
    clear hwr kc5_0_0 kc5_1_0 kc5_2_0 KJ kd50 kd51 kd40 kd41 kd30 kd31 kc4_0_0 kc4_1_0 kc4_2_0 kc4_0_1 kc4_1_1 kc3_0_0 kc3_1_0 kc3_2_0 kc3_0_1 kc3_1_1 kc2_0_0 kc2_1_0 kc2_2_0 kc2_0_1 kc2_1_1 x0 x1 x2
    have HM1 := Lib.hid (fun W => iRatMul rn rd (i + 1) 1 W)
    have HM2 := Lib.hid (fun W => iRatMul zn zd (j1 + 1) 1 W)
    have hwi : IntKind.i64.wrap (i + 1) = i + 1 := IntWalk.i64_in _ (by omega)
    have hwj : IntKind.i64.wrap (j1 + 1) = j1 + 1 := IntWalk.i64_in _ (by omega)
    have hwn : ∀ W, Calls Try.prog 12 #[.agg #[.int .i64 rn, .int .i64 rd], .agg #[.int .i64 (IntKind.i64.wrap (i + 1)), .int .i64 1]] W (Gives (roV (mulR rn rd (i + 1) 1)) W) := by rw [hwi]; exact HM1.out
    have hwm : ∀ W, Calls Try.prog 12 #[.agg #[.int .i64 zn, .int .i64 zd], .agg #[.int .i64 (IntKind.i64.wrap (j1 + 1)), .int .i64 1]] W (Gives (roV (mulR zn zd (j1 + 1) 1)) W) := by rw [hwj]; exact HM2.out
    clear HM1 HM2 hwi hwj
    have HM1 := Lib.hid hwn
    have HM2 := Lib.hid hwm
    clear hwn hwm
    unfold roV at HM1 HM2
    have HRF := Lib.hid hrf
    clear hrf
    generalize mulR rn rd (i + 1) 1 = p at *
    generalize mulR zn zd (j1 + 1) 1 = q at *
    obtain ⟨pn, pd, pok⟩ := p
    obtain ⟨qn, qd, qok⟩ := q
    have hi0 : 0 ≤ i ∧ i ≤ 30 := hji
    have x0 := X0.out
    have x1 := X1.out
    have x2 := X2.out
    go_cut [15, 16] (fun s15 s16 wx => ∃ T : Nat, wr.heap.size ≤ T ∧ s15 = .pointer (some ⟨T, 0, none⟩) ∧ s16 = .bool pok ∧ Two wx T pn pd ∧ Below wr.heap.size wr wx)
    case first =>
      go_region_held3 (fun w' => w'.cell? ⟨w2.heap.size, 0, none⟩ = some (.int .i64 (rn)) ∧ w'.cell? ⟨w2.heap.size, 1, none⟩ = some (.int .i64 (rd)) ∧ w'.cell? ⟨w4.heap.size, 2, none⟩ = some (.int .i64 (i)))
        (first | exact ⟨x0, x1, x2⟩ | (refine ⟨?_, ?_, ?_⟩ <;> (rw [World.cell?_setCell_far _ _ _ _ (by first | exact Nat.ne_of_gt hA | exact Nat.ne_of_gt hC | exact Nat.ne_of_gt (Nat.lt_of_lt_of_le hA BX2.size) | exact Nat.ne_of_gt (Nat.lt_of_lt_of_le hC BX2.size)), World.cell?_setCell_far _ _ _ _ (by first | exact Nat.ne_of_gt hA | exact Nat.ne_of_gt hC | exact Nat.ne_of_gt (Nat.lt_of_lt_of_le hA BX2.size) | exact Nat.ne_of_gt (Nat.lt_of_lt_of_le hC BX2.size))]; assumption)) | go_keep)
        (first | ((with_reducible refine (HW.out _ _).mono ?_); rintro e w2x ⟨rfl, b2'⟩; have BX2 : Below wr.heap.size wr w2x := ((Below.refl wr.heap.size wr).drew).trans b2'; clear b2'; have x0 := (BX2.cell (p := ⟨w2.heap.size, 0, none⟩) hA).trans X0.out; have x1 := (BX2.cell (p := ⟨w2.heap.size, 1, none⟩) hA).trans X1.out; have x2 := (BX2.cell (p := ⟨w4.heap.size, 2, none⟩) hC).trans X2.out; skip)
               | ((with_reducible refine (HW.out _ _).mono ?_); rintro e w2x ⟨rfl, b2'⟩; have BX2 : Below wr.heap.size wr w2x := (((Below.refl wr.heap.size wr).alloc (Nat.le_refl _) (.cells #[.int .i64 0, .int .i64 0] 30)).drew).trans (b2'.mono (show wr.heap.size ≤ (wr.alloc (.cells #[.int .i64 0, .int .i64 0] 30)).heap.size by simp)); have TX2 := Lib.hid ((Two.new wr 0 0 30).below (((Below.refl (wr.alloc (.cells #[.int .i64 0, .int .i64 0] 30)).heap.size (wr.alloc (.cells #[.int .i64 0, .int .i64 0] 30))).drew).trans b2') (Two.new wr 0 0 30).2.2.2.2); clear b2'; have tf0 := TX2.out.1; have tf1 := TX2.out.2.1; have tf2 := TX2.out.2.2.1; have tf3 := TX2.out.2.2.2.1; have x0 := (BX2.cell (p := ⟨w2.heap.size, 0, none⟩) hA).trans X0.out; have x1 := (BX2.cell (p := ⟨w2.heap.size, 1, none⟩) hA).trans X1.out; have x2 := (BX2.cell (p := ⟨w4.heap.size, 2, none⟩) hC).trans X2.out; skip)
               | ((with_reducible refine (HM1.out _).mono ?_); rintro e w3x ⟨rfl, b3'⟩; have BX3 : Below wr.heap.size wr w3x := BX2.trans (b3'.mono BX2.size); (first | (have TX3 := Lib.hid (TX2.out.below b3' TX2.out.2.2.2.2); have tg0 := TX3.out.1; have tg1 := TX3.out.2.1; have tg2 := TX3.out.2.2.1; have tg3 := TX3.out.2.2.2.1) | skip); clear b3'; have x0 := (BX3.cell (p := ⟨w2.heap.size, 0, none⟩) hA).trans X0.out; have x1 := (BX3.cell (p := ⟨w2.heap.size, 1, none⟩) hA).trans X1.out; have x2 := (BX3.cell (p := ⟨w4.heap.size, 2, none⟩) hC).trans X2.out; skip)
               | ((with_reducible refine (HM1.out _).mono ?_); rintro e w3x ⟨rfl, b3'⟩; have BX3 : Below wr.heap.size wr w3x := (BX2.alloc BX2.size (.cells #[.int .i64 0, .int .i64 0] 30)).trans (b3'.mono (BX2.alloc BX2.size (.cells #[.int .i64 0, .int .i64 0] 30)).size); have TX3 := Lib.hid ((Two.new w2x 0 0 30).below b3' (Two.new w2x 0 0 30).2.2.2.2); clear b3'; have tg0 := TX3.out.1; have tg1 := TX3.out.2.1; have tg2 := TX3.out.2.2.1; have tg3 := TX3.out.2.2.2.1; have x0 := (BX3.cell (p := ⟨w2.heap.size, 0, none⟩) hA).trans X0.out; have x1 := (BX3.cell (p := ⟨w2.heap.size, 1, none⟩) hA).trans X1.out; have x2 := (BX3.cell (p := ⟨w4.heap.size, 2, none⟩) hC).trans X2.out; skip))
      all_goals go_wp2_with fail
      all_goals go_meet
      all_goals first | exact ⟨_, BX3.size, rfl, rfl, Two.new _ _ _ _, BX3.alloc BX3.size _⟩ | exact ⟨_, Nat.le_refl _, rfl, rfl, Two.put TX3.out _ _, (BX3.setCell (p := ⟨wr.heap.size, 0, none⟩) (Nat.le_refl _) _).setCell (p := ⟨wr.heap.size, 1, none⟩) (Nat.le_refl _) _⟩ | exact ⟨_, BX2.size, rfl, rfl, Two.put TX3.out _ _, (BX3.setCell (p := ⟨w2x.heap.size, 0, none⟩) BX2.size _).setCell (p := ⟨w2x.heap.size, 1, none⟩) BX2.size _⟩
    case rest =>
      obtain ⟨T, hT, rfl, rfl, TT', B6⟩ := hcut
      obtain ⟨w6, rfl⟩ : ∃ x : World, x = wc := ⟨_, rfl⟩
      have TT := Lib.hid TT'
      clear TT' x0 x1 x2
      have Y0 := Lib.hid ((B6.cell (p := ⟨w5.heap.size, 0, none⟩) hE).trans X4.out)
      have Y1 := Lib.hid ((B6.cell (p := ⟨w5.heap.size, 1, none⟩) hE).trans X5.out)
      have Y2 := Lib.hid ((B6.cell (p := ⟨w.heap.size, 2, none⟩) hD).trans X3.out)
      have hE6 := Nat.lt_of_lt_of_le hE B6.size
      have hD6 := Nat.lt_of_lt_of_le hD B6.size
      have BR6 := BR.trans (B6.mono BR.size)
      clear X0 X1 X2 X3 X4 X5 hA hC hE hD B6 BR
      have x0 := Y0.out
      have x1 := Y1.out
      have x2 := Y2.out
      go_upto_region 12 with fail
      go_cut [17, 18] (fun s17 s18 wx => ∃ T2 : Nat, w6.heap.size ≤ T2 ∧ s17 = .pointer (some ⟨T2, 0, none⟩) ∧ s18 = .bool qok ∧ Two wx T2 qn qd ∧ Below w6.heap.size w6 wx)
      case first =>
        go_region_held3 (fun w' => w'.cell? ⟨w5.heap.size, 0, none⟩ = some (.int .i64 (zn)) ∧ w'.cell? ⟨w5.heap.size, 1, none⟩ = some (.int .i64 (zd)) ∧ w'.cell? ⟨w.heap.size, 2, none⟩ = some (.int .i64 (j1)))
          (first | exact ⟨x0, x1, x2⟩ | (refine ⟨?_, ?_, ?_⟩ <;> (rw [World.cell?_setCell_far _ _ _ _ (by first | exact Nat.ne_of_gt hE6 | exact Nat.ne_of_gt hD6 | exact Nat.ne_of_gt (Nat.lt_of_lt_of_le hE6 BX2.size) | exact Nat.ne_of_gt (Nat.lt_of_lt_of_le hD6 BX2.size)), World.cell?_setCell_far _ _ _ _ (by first | exact Nat.ne_of_gt hE6 | exact Nat.ne_of_gt hD6 | exact Nat.ne_of_gt (Nat.lt_of_lt_of_le hE6 BX2.size) | exact Nat.ne_of_gt (Nat.lt_of_lt_of_le hD6 BX2.size))]; assumption)) | go_keep)
          (first | ((with_reducible refine (HW.out _ _).mono ?_); rintro e w2x ⟨rfl, b2'⟩; have BX2 : Below w6.heap.size w6 w2x := ((Below.refl w6.heap.size w6).drew).trans b2'; clear b2'; have x0 := (BX2.cell (p := ⟨w5.heap.size, 0, none⟩) hE6).trans Y0.out; have x1 := (BX2.cell (p := ⟨w5.heap.size, 1, none⟩) hE6).trans Y1.out; have x2 := (BX2.cell (p := ⟨w.heap.size, 2, none⟩) hD6).trans Y2.out; skip)
                 | ((with_reducible refine (HW.out _ _).mono ?_); rintro e w2x ⟨rfl, b2'⟩; have BX2 : Below w6.heap.size w6 w2x := (((Below.refl w6.heap.size w6).alloc (Nat.le_refl _) (.cells #[.int .i64 0, .int .i64 0] 30)).drew).trans (b2'.mono (show w6.heap.size ≤ (w6.alloc (.cells #[.int .i64 0, .int .i64 0] 30)).heap.size by simp)); have TX2 := Lib.hid ((Two.new w6 0 0 30).below (((Below.refl (w6.alloc (.cells #[.int .i64 0, .int .i64 0] 30)).heap.size (w6.alloc (.cells #[.int .i64 0, .int .i64 0] 30))).drew).trans b2') (Two.new w6 0 0 30).2.2.2.2); clear b2'; have tf0 := TX2.out.1; have tf1 := TX2.out.2.1; have tf2 := TX2.out.2.2.1; have tf3 := TX2.out.2.2.2.1; have x0 := (BX2.cell (p := ⟨w5.heap.size, 0, none⟩) hE6).trans Y0.out; have x1 := (BX2.cell (p := ⟨w5.heap.size, 1, none⟩) hE6).trans Y1.out; have x2 := (BX2.cell (p := ⟨w.heap.size, 2, none⟩) hD6).trans Y2.out; skip)
                 | ((with_reducible refine (HM2.out _).mono ?_); rintro e w3x ⟨rfl, b3'⟩; have BX3 : Below w6.heap.size w6 w3x := BX2.trans (b3'.mono BX2.size); (first | (have TX3 := Lib.hid (TX2.out.below b3' TX2.out.2.2.2.2); have tg0 := TX3.out.1; have tg1 := TX3.out.2.1; have tg2 := TX3.out.2.2.1; have tg3 := TX3.out.2.2.2.1) | skip); clear b3'; have x0 := (BX3.cell (p := ⟨w5.heap.size, 0, none⟩) hE6).trans Y0.out; have x1 := (BX3.cell (p := ⟨w5.heap.size, 1, none⟩) hE6).trans Y1.out; have x2 := (BX3.cell (p := ⟨w.heap.size, 2, none⟩) hD6).trans Y2.out; skip)
                 | ((with_reducible refine (HM2.out _).mono ?_); rintro e w3x ⟨rfl, b3'⟩; have BX3 : Below w6.heap.size w6 w3x := (BX2.alloc BX2.size (.cells #[.int .i64 0, .int .i64 0] 30)).trans (b3'.mono (BX2.alloc BX2.size (.cells #[.int .i64 0, .int .i64 0] 30)).size); have TX3 := Lib.hid ((Two.new w2x 0 0 30).below b3' (Two.new w2x 0 0 30).2.2.2.2); clear b3'; have tg0 := TX3.out.1; have tg1 := TX3.out.2.1; have tg2 := TX3.out.2.2.1; have tg3 := TX3.out.2.2.2.1; have x0 := (BX3.cell (p := ⟨w5.heap.size, 0, none⟩) hE6).trans Y0.out; have x1 := (BX3.cell (p := ⟨w5.heap.size, 1, none⟩) hE6).trans Y1.out; have x2 := (BX3.cell (p := ⟨w.heap.size, 2, none⟩) hD6).trans Y2.out; skip))
        all_goals go_wp2_with fail
        all_goals go_meet
        all_goals first | exact ⟨_, BX3.size, rfl, rfl, Two.new _ _ _ _, BX3.alloc BX3.size _⟩ | exact ⟨_, Nat.le_refl _, rfl, rfl, Two.put TX3.out _ _, (BX3.setCell (p := ⟨w6.heap.size, 0, none⟩) (Nat.le_refl _) _).setCell (p := ⟨w6.heap.size, 1, none⟩) (Nat.le_refl _) _⟩ | exact ⟨_, BX2.size, rfl, rfl, Two.put TX3.out _ _, (BX3.setCell (p := ⟨w2x.heap.size, 0, none⟩) BX2.size _).setCell (p := ⟨w2x.heap.size, 1, none⟩) BX2.size _⟩
      case rest =>
        obtain ⟨T2, hT2, rfl, rfl, TU, B7⟩ := hcut
        have TT7 := TT.out.below B7 TT.out.2.2.2.2
        have BB := BR6.trans (B7.mono BR6.size)
        clear x0 x1 x2 Y0 Y1 Y2 TT
        obtain ⟨t0, t1, t2, t3, t4⟩ := TT7
        obtain ⟨u0, u1, u2, u3, u4⟩ := TU
        cases zok
        · go_wp2
          all_goals go_ret
          all_goals exact ⟨by simp, hb0.trans (Below.mono (by repeat (first | (with_reducible refine Below.drew ?_) | (with_reducible refine below_drewN ?_ _) | (with_reducible refine Below.alloc ?_ ?_ _) | (with_reducible refine Below.setCell ?_ ?_ _) | (with_reducible assumption) | (with_reducible exact Below.refl _ _) | omega | (simp <;> omega))) hb0.size)⟩
        · obtain ⟨e1, e2⟩ := HRF.out rfl
          injection e2 with e3 e4 e5
          subst e3 e4 e5
          have e1' : pok = true := e1
          subst e1'
          go_wp2
          all_goals go_ret
          all_goals exact ⟨by simp, hb0.trans (Below.mono (by repeat (first | (with_reducible refine Below.drew ?_) | (with_reducible refine below_drewN ?_ _) | (with_reducible refine Below.alloc ?_ ?_ _) | (with_reducible refine Below.setCell ?_ ?_ _) | (with_reducible assumption) | (with_reducible exact Below.refl _ _) | omega | (simp <;> omega))) hb0.size)⟩
end Go.Proofs.Ythinhhfegflmmaa.WFnStrengthRatio
