/-
  Contracts of the reference's FactorOf and of the functions that make one component.
-/
import Derived.Test.YtpollgibgphipaaDoorFacP
import Derived.Test.YtpollgibgphipaaDoorCgS
namespace Go.Proofs.YtpollgibgphipaaDoor.FacS
open Go.RowKit Go.Proofs.YtpollgibgphipaaDoor.RatP Go.Proofs.YtpollgibgphipaaDoor.ChoP Go.Proofs.YtpollgibgphipaaDoor.Rat Go.Proofs.YtpollgibgphipaaDoor.Root Go.Proofs.YtpollgibgphipaaDoor.SplitPlain Go.Proofs.YtpollgibgphipaaDoor.SplitP Go.Proofs.YtpollgibgphipaaDoor.SplitDef Go.Proofs.YtpollgibgphipaaDoor.Fac Go.Proofs.YtpollgibgphipaaDoor.Cg Go.Proofs.YtpollgibgphipaaDoor.Spin Go.Proofs.YtpollgibgphipaaDoor.Row Go.Proofs.YtpollgibgphipaaDoor.Later Go.Proofs.YtpollgibgphipaaDoor.Two
set_option linter.unusedVariables false
set_option linter.unusedSimpArgs false

theorem sSquare (n : Int) (w : World) (h : -100 ≤ n ∧ n ≤ 100) : Calls Tryd.prog 81 #[.int .i64 n] w fun e w' => e = .returned (.int .i64 (n * (n + 2))) ∧ w = w' := by
  have hb := mul_bds (a := n) (b := n + 2) (A := 100) (B := 102) (by omega) (by omega) (by omega) (by omega) (by omega)
  obtain ⟨h1, h2⟩ := h
  obtain ⟨b1, b2⟩ := hb
  go_enter Tryd.func81, Tryd.ntmps81
  go_wp2
  go_ret
  exact ⟨rfl, rfl⟩
set_option maxRecDepth 100000 in
set_option maxHeartbeats 1000000 in
theorem sTwice (s l j : Int) (w : World) (hs : 0 ≤ s ∧ s ≤ 8) (hl : 0 ≤ l ∧ l ≤ 8) (hj : 0 ≤ j ∧ j ≤ 6) :
    Calls Tryd.prog 80 #[.agg #[.int .i64 s, .int .i64 l, .int .i64 j]] w (Gives (.int .i64 (2 * (j * (j + 2)) + j * (j + 2) + s * (s + 2) - 2 * l * (2 * l + 2))) w) := by
  have b1 := mul_bds (a := j) (b := j + 2) (A := 6) (B := 8) (by omega) (by omega) (by omega) (by omega) (by omega)
  have b2 := mul_bds (a := s) (b := s + 2) (A := 8) (B := 10) (by omega) (by omega) (by omega) (by omega) (by omega)
  have b3 := mul_bds (a := 2 * l) (b := 2 * l + 2) (A := 16) (B := 18) (by omega) (by omega) (by omega) (by omega) (by omega)
  have HJ := Lib.hid (fun W => sSquare j W (by omega))
  have HS := Lib.hid (fun W => sSquare s W (by omega))
  have HL := Lib.hid (fun W => sSquare (2 * l) W (by omega))
  generalize j * (j + 2) = jj at *
  generalize s * (s + 2) = ss at *
  generalize hll : 2 * l * (2 * l + 2) = ll at *
  clear hll
  obtain ⟨hs1, hs2⟩ := hs
  obtain ⟨hl1, hl2⟩ := hl
  obtain ⟨hj1, hj2⟩ := hj
  obtain ⟨b11, b12⟩ := b1
  obtain ⟨b21, b22⟩ := b2
  obtain ⟨b31, b32⟩ := b3
  go_enter Tryd.func80, Tryd.ntmps80
  go_wp2_with (go_at_call 81; (with_reducible refine (HJ.out _).mono ?_); rintro e w' ⟨rfl, rfl⟩)
  have hx : w.heap.size < (w.alloc (.cells #[.int .i64 s, .int .i64 l, .int .i64 j] 26)).heap.size := by simp
  have f0 : ∀ p : Later (w.alloc (.cells #[.int .i64 s, .int .i64 l, .int .i64 j] 26)).heap.size (w.alloc (.cells #[.int .i64 s, .int .i64 l, .int .i64 j] 26)), p.W.cell? ⟨w.heap.size, 0, none⟩ = some (.int .i64 s) := Later.cell (by simp) hx
  have f1 : ∀ p : Later (w.alloc (.cells #[.int .i64 s, .int .i64 l, .int .i64 j] 26)).heap.size (w.alloc (.cells #[.int .i64 s, .int .i64 l, .int .i64 j] 26)), p.W.cell? ⟨w.heap.size, 1, none⟩ = some (.int .i64 l) := Later.cell (by simp) hx
  refine Later.wp_region_later ((w.alloc (.cells #[.int .i64 s, .int .i64 l, .int .i64 j] 26)).heap.size) (by kernel_rfl) (by kernel_rfl) ?_
  repeat (first | go_big_quiet_step ((go_at_call 81; first | exact later_same (HS.out _) | exact later_same (HL.out _))) | quiet_step ((go_at_call 81; first | exact later_same (HS.out _) | exact later_same (HL.out _))))
  refine wpQuiet_nil ?_
  rintro w1 ⟨q1, hq1⟩
  have b1 := q1.h
  rw [← hq1] at b1
  clear hq1 q1
  have B1 : Below w.heap.size w w1 := Below.trans (by repeat (first | (with_reducible refine Below.drew ?_) | (with_reducible refine below_drewN ?_ _) | (with_reducible refine Below.alloc ?_ ?_ _) | (with_reducible refine Below.setCell ?_ ?_ _) | (with_reducible assumption) | (with_reducible exact Below.refl _ _) | omega | (simp <;> omega))) (b1.mono (Nat.le_of_lt hx))
  clear f0 f1 b1
  go_wp2
  go_ret
  exact ⟨rfl, (by repeat (first | (with_reducible refine Below.drew ?_) | (with_reducible refine below_drewN ?_ _) | (with_reducible refine Below.alloc ?_ ?_ _) | (with_reducible refine Below.setCell ?_ ?_ _) | (with_reducible assumption) | (with_reducible exact Below.refl _ _) | omega | (simp <;> omega)))⟩
theorem gn_is {s l j : Int} (h : ¬ j = 0) : 2 * (j * (j + 2)) + j * (j + 2) + s * (s + 2) - 2 * l * (2 * l + 2) = gn s l j ∧ 2 * (j * (j + 2)) = gd j := by
  unfold gn gd
  rw [if_neg h, if_neg h]
  exact ⟨by omega, rfl⟩
set_option maxRecDepth 100000 in
set_option maxHeartbeats 1000000 in
theorem sFactorOf (s l j : Int) (L : Lv s l j) (w : World) :
    Calls Tryd.prog 69 #[.agg #[.int .i64 s, .int .i64 l, .int .i64 j]] w (Gives (roV (if j = 0 then bad else facR s l j)) w) := by
  have hV := fun W => sLevelValid s l j W
  rw [L.ok] at hV
  have HV := Lib.hid hV
  clear hV
  by_cases h0 : j = 0
  · subst h0
    rw [if_pos rfl]
    unfold roV bad
    clear L
    go_enter Tryd.func69, Tryd.ntmps69
    go_wp2_with fail
    (with_reducible refine (HV.out _).mono ?_)
    rintro e w1 ⟨rfl, b1⟩
    have hz1 := b1.size
    obtain ⟨hc1, hf1⟩ := bcell b1
    have B1 : Below w.heap.size w w1 := Below.trans (by repeat (first | (with_reducible refine Below.drew ?_) | (with_reducible refine below_drewN ?_ _) | (with_reducible refine Below.alloc ?_ ?_ _) | (with_reducible refine Below.setCell ?_ ?_ _) | (with_reducible assumption) | (with_reducible exact Below.refl _ _) | omega | (simp <;> omega))) (b1.mono (by first | omega | (simp <;> omega)))
    (try simp at hz1)
    have hy1 : w.heap.size < w1.heap.size := by omega
    clear b1
    have kc1_0_0 : w1.cell? ⟨w.heap.size, 0, none⟩ = some (.int .i64 s) := (hc1 (w.heap.size) 0 (by first | omega | (simp <;> omega))).trans (by first | (simp; done) | (simp [*]; done) | (simp [*, World.cell?_alloc_at, World.cell?_alloc_past, World.cell?_alloc_lt, lt2, lt3, lt4]; done))
    have kc1_1_0 : w1.cell? ⟨w.heap.size, 1, none⟩ = some (.int .i64 l) := (hc1 (w.heap.size) 1 (by first | omega | (simp <;> omega))).trans (by first | (simp; done) | (simp [*]; done) | (simp [*, World.cell?_alloc_at, World.cell?_alloc_past, World.cell?_alloc_lt, lt2, lt3, lt4]; done))
    have kc1_2_0 : w1.cell? ⟨w.heap.size, 2, none⟩ = some (.int .i64 0) := (hc1 (w.heap.size) 2 (by first | omega | (simp <;> omega))).trans (by first | (simp; done) | (simp [*]; done) | (simp [*, World.cell?_alloc_at, World.cell?_alloc_past, World.cell?_alloc_lt, lt2, lt3, lt4]; done))
    go_wp2
    refine bodyPost_ret (v := .tuple #[.agg #[.int .i64 0, .int .i64 0], .bool false]) (by simp [results, Tryd.results69, go_sem, *, lt2, lt3, lt4, lt5, lt6]) rfl ⟨rfl, (by repeat (first | (with_reducible refine Below.drew ?_) | (with_reducible refine below_drewN ?_ _) | (with_reducible refine Below.alloc ?_ ?_ _) | (with_reducible refine Below.setCell ?_ ?_ _) | (with_reducible assumption) | (with_reducible exact Below.refl _ _) | omega | (simp <;> omega)))⟩
  · rw [if_neg h0]
    have hg := gn_is (s := s) (l := l) h0
    have hb := L.gn
    have hd := gd_bd L.hj
    have hlb := L.bd
    have hT := fun W => sTwice s l j W hlb.1 hlb.2 L.hj
    have hQ := fun W => sSquare j W (by have := L.hj; omega)
    have hR := fun W => sRatOf (gn s l j) (gd j) W (by omega) (by omega)
    rw [hg.1] at hT
    have hf : mkR (gn s l j) (gd j) = facR s l j := rfl
    rw [hf] at hR
    have HT := Lib.hid hT
    have HQ := Lib.hid hQ
    have HR := Lib.hid hR
    have hb2 : 2 * (j * (j + 2)) = gd j := hg.2
    have hq : 0 ≤ j * (j + 2) ∧ j * (j + 2) ≤ 48 := by omega
    have h0' : (j == 0) = false := by simp [h0]
    generalize facR s l j = r at *
    unfold roV
    unfold roV at HR
    obtain ⟨rn, rd, rok⟩ := r
    generalize j * (j + 2) = jj at *
    generalize gn s l j = g at *
    obtain ⟨q1, q2⟩ := hq
    clear hT hQ hR hf hg L hlb h0
    rw [← hb2] at HR
    have hwr : IntKind.i64.wrap (2 * jj) = 2 * jj := IntWalk.i64_in _ (by omega)
    rw [← hwr] at HR
    clear hb2 hd hwr
    go_enter Tryd.func69, Tryd.ntmps69
    go_wp2_with fail
    (with_reducible refine (HV.out _).mono ?_)
    rintro e w1 ⟨rfl, b1⟩
    have hz1 := b1.size
    obtain ⟨hc1, hf1⟩ := bcell b1
    have B1 : Below w.heap.size w w1 := Below.trans (by repeat (first | (with_reducible refine Below.drew ?_) | (with_reducible refine below_drewN ?_ _) | (with_reducible refine Below.alloc ?_ ?_ _) | (with_reducible refine Below.setCell ?_ ?_ _) | (with_reducible assumption) | (with_reducible exact Below.refl _ _) | omega | (simp <;> omega))) (b1.mono (by first | omega | (simp <;> omega)))
    (try simp at hz1)
    have hy1 : w.heap.size < w1.heap.size := by omega
    clear b1
    have kc1_0_0 : w1.cell? ⟨w.heap.size, 0, none⟩ = some (.int .i64 s) := (hc1 (w.heap.size) 0 (by first | omega | (simp <;> omega))).trans (by first | (simp; done) | (simp [*]; done) | (simp [*, World.cell?_alloc_at, World.cell?_alloc_past, World.cell?_alloc_lt, lt2, lt3, lt4]; done))
    have kc1_1_0 : w1.cell? ⟨w.heap.size, 1, none⟩ = some (.int .i64 l) := (hc1 (w.heap.size) 1 (by first | omega | (simp <;> omega))).trans (by first | (simp; done) | (simp [*]; done) | (simp [*, World.cell?_alloc_at, World.cell?_alloc_past, World.cell?_alloc_lt, lt2, lt3, lt4]; done))
    have kc1_2_0 : w1.cell? ⟨w.heap.size, 2, none⟩ = some (.int .i64 j) := (hc1 (w.heap.size) 2 (by first | omega | (simp <;> omega))).trans (by first | (simp; done) | (simp [*]; done) | (simp [*, World.cell?_alloc_at, World.cell?_alloc_past, World.cell?_alloc_lt, lt2, lt3, lt4]; done))
    have kc1_0_1 : w1.cell? ⟨w.heap.size + 1, 0, none⟩ = some (.int .i64 0) := (hc1 (w.heap.size + 1) 0 (by first | omega | (simp <;> omega))).trans (by first | (simp; done) | (simp [*]; done) | (simp [*, World.cell?_alloc_at, World.cell?_alloc_past, World.cell?_alloc_lt, lt2, lt3, lt4]; done))
    have kc1_1_1 : w1.cell? ⟨w.heap.size + 1, 1, none⟩ = some (.int .i64 0) := (hc1 (w.heap.size + 1) 1 (by first | omega | (simp <;> omega))).trans (by first | (simp; done) | (simp [*]; done) | (simp [*, World.cell?_alloc_at, World.cell?_alloc_past, World.cell?_alloc_lt, lt2, lt3, lt4]; done))
    have kf1_0_1 : w1.frozen? ⟨w.heap.size + 1, 0, none⟩ = false := (hf1 (w.heap.size + 1) 0 (by first | omega | (simp <;> omega))).trans (by first | (simp; done) | (simp [*]; done) | (simp [*, World.frozen?_alloc_at, World.frozen?_alloc_past, lt2, lt3, lt4]; done))
    have kf1_1_1 : w1.frozen? ⟨w.heap.size + 1, 1, none⟩ = false := (hf1 (w.heap.size + 1) 1 (by first | omega | (simp <;> omega))).trans (by first | (simp; done) | (simp [*]; done) | (simp [*, World.frozen?_alloc_at, World.frozen?_alloc_past, lt2, lt3, lt4]; done))
    have hy2 : w.heap.size + 1 < w1.heap.size := by omega
    clear HV hc1 hf1
    go_wp2_with fail
    go_region_held3 (fun w' => w'.cell? ⟨w.heap.size, 0, none⟩ = some (.int .i64 s) ∧ w'.cell? ⟨w.heap.size, 1, none⟩ = some (.int .i64 l) ∧ w'.cell? ⟨w.heap.size, 2, none⟩ = some (.int .i64 j)) (first | go_keep | exact ⟨t0, t1, t2⟩)
      (first
        | (go_at_call 80; (with_reducible refine (HT.out _).mono ?_); rintro e w2 ⟨rfl, b2⟩; obtain ⟨hc2, hf2⟩ := bcell b2; have t0 := (hc2 _ 0 hy1).trans kc1_0_0; have t1 := (hc2 _ 1 hy1).trans kc1_1_0; have t2 := (hc2 _ 2 hy1).trans kc1_2_0; have r0 := (hc2 _ 0 hy2).trans kc1_0_1; have r1 := (hc2 _ 1 hy2).trans kc1_1_1; have v0 := (hf2 _ 0 hy2).trans kf1_0_1; have v1 := (hf2 _ 1 hy2).trans kf1_1_1; have B2 : Below w.heap.size w w2 := (B1.drew).trans (b2.mono (Nat.le_of_lt hy1)); have hz2 := b2.size; have hy21 : w.heap.size < w2.heap.size := (Nat.lt_of_lt_of_le hy1 hz2); have hy22 : w.heap.size + 1 < w2.heap.size := (Nat.lt_of_lt_of_le hy2 hz2); clear b2 hc2 hf2 hz2)
        | (go_at_call 81; (with_reducible refine (HQ.out _).mono ?_); rintro e w' ⟨rfl, rfl⟩)
        | (go_at_call 67; (with_reducible refine (HR.out _).mono ?_); rintro e w3 ⟨rfl, b3⟩; obtain ⟨hc3, hf3⟩ := bcell b3; have t0 := (hc3 _ 0 hy21).trans t0; have t1 := (hc3 _ 1 hy21).trans t1; have t2 := (hc3 _ 2 hy21).trans t2; have r0 := (hc3 _ 0 hy22).trans r0; have r1 := (hc3 _ 1 hy22).trans r1; have v0 := (hf3 _ 0 hy22).trans v0; have v1 := (hf3 _ 1 hy22).trans v1; have B3 : Below w.heap.size w w3 := B2.trans (b3.mono (Nat.le_of_lt hy21)); clear b3 hc3 hf3))
    go_wp2
    refine bodyPost_ret (v := .tuple #[.agg #[.int .i64 rn, .int .i64 rd], .bool rok]) (by simp [results, Tryd.results69, go_sem, *, lt2, lt3, lt4, lt5, lt6]) rfl ⟨rfl, (by repeat (first | (with_reducible refine Below.drew ?_) | (with_reducible refine below_drewN ?_ _) | (with_reducible refine Below.alloc ?_ ?_ _) | (with_reducible refine Below.setCell ?_ ?_ _) | (with_reducible assumption) | (with_reducible exact Below.refl _ _) | omega | (simp <;> omega)))⟩
set_option maxRecDepth 100000 in
set_option maxHeartbeats 1000000 in
theorem sFactor (s l j : Int) (L : Lv s l j) (w : World) :
    Calls Tryd.prog 57 #[.agg #[.int .i64 s, .int .i64 l, .int .i64 j]] w (Gives (.agg #[.int .i64 (facR s l j).n, .int .i64 (facR s l j).d]) w) := by
  have hF := fun W => sFactorOf s l j L W
  by_cases h0 : j = 0
  · subst h0
    simp only [↓reduceIte] at hF
    rw [fac_zero]
    unfold roV bad at hF
    have HF := Lib.hid hF
    clear hF L
    go_enter Tryd.func57, Tryd.ntmps57
    go_wp2_with fail
    (with_reducible refine (HF.out _).mono ?_)
    rintro e w1 ⟨rfl, b1⟩
    have hz1 := b1.size
    obtain ⟨hc1, hf1⟩ := bcell b1
    have B1 : Below w.heap.size w w1 := Below.trans (by repeat (first | (with_reducible refine Below.drew ?_) | (with_reducible refine below_drewN ?_ _) | (with_reducible refine Below.alloc ?_ ?_ _) | (with_reducible refine Below.setCell ?_ ?_ _) | (with_reducible assumption) | (with_reducible exact Below.refl _ _) | omega | (simp <;> omega))) (b1.mono (by first | omega | (simp <;> omega)))
    (try simp at hz1)
    have hy1 : w.heap.size < w1.heap.size := by omega
    clear b1
    have kc1_0_1 : w1.cell? ⟨w.heap.size + 1, 0, none⟩ = some (.int .i64 0) := (hc1 (w.heap.size + 1) 0 (by first | omega | (simp <;> omega))).trans (by first | (simp; done) | (simp [*]; done) | (simp [*, World.cell?_alloc_at, World.cell?_alloc_past, World.cell?_alloc_lt, lt2, lt3, lt4]; done))
    have kc1_1_1 : w1.cell? ⟨w.heap.size + 1, 1, none⟩ = some (.int .i64 0) := (hc1 (w.heap.size + 1) 1 (by first | omega | (simp <;> omega))).trans (by first | (simp; done) | (simp [*]; done) | (simp [*, World.cell?_alloc_at, World.cell?_alloc_past, World.cell?_alloc_lt, lt2, lt3, lt4]; done))
    have kf1_0_1 : w1.frozen? ⟨w.heap.size + 1, 0, none⟩ = false := (hf1 (w.heap.size + 1) 0 (by first | omega | (simp <;> omega))).trans (by first | (simp; done) | (simp [*]; done) | (simp [*, World.frozen?_alloc_at, World.frozen?_alloc_past, lt2, lt3, lt4]; done))
    have kf1_1_1 : w1.frozen? ⟨w.heap.size + 1, 1, none⟩ = false := (hf1 (w.heap.size + 1) 1 (by first | omega | (simp <;> omega))).trans (by first | (simp; done) | (simp [*]; done) | (simp [*, World.frozen?_alloc_at, World.frozen?_alloc_past, lt2, lt3, lt4]; done))
    have hx1 : w.heap.size + 1 < w1.heap.size := by omega
    go_wp2
    refine bodyPost_ret (v := .agg #[.int .i64 0, .int .i64 1]) (by simp [results, Tryd.results57, go_sem, *, lt2, lt3, lt4, lt5, lt6]) rfl ⟨rfl, (by repeat (first | (with_reducible refine Below.drew ?_) | (with_reducible refine below_drewN ?_ _) | (with_reducible refine Below.alloc ?_ ?_ _) | (with_reducible refine Below.setCell ?_ ?_ _) | (with_reducible assumption) | (with_reducible exact Below.refl _ _) | omega | (simp <;> omega)))⟩
  · simp only [if_neg h0] at hF
    have hok : (facR s l j).ok = true := by rw [L.fac]
    unfold roV at hF
    rw [hok] at hF
    generalize facR s l j = r at *
    obtain ⟨rn, rd, rok⟩ := r
    have HF := Lib.hid hF
    clear hF L h0 hok
    go_enter Tryd.func57, Tryd.ntmps57
    go_wp2_with fail
    (with_reducible refine (HF.out _).mono ?_)
    rintro e w1 ⟨rfl, b1⟩
    have hz1 := b1.size
    obtain ⟨hc1, hf1⟩ := bcell b1
    have B1 : Below w.heap.size w w1 := Below.trans (by repeat (first | (with_reducible refine Below.drew ?_) | (with_reducible refine below_drewN ?_ _) | (with_reducible refine Below.alloc ?_ ?_ _) | (with_reducible refine Below.setCell ?_ ?_ _) | (with_reducible assumption) | (with_reducible exact Below.refl _ _) | omega | (simp <;> omega))) (b1.mono (by first | omega | (simp <;> omega)))
    (try simp at hz1)
    have hy1 : w.heap.size < w1.heap.size := by omega
    clear b1
    have kc1_0_1 : w1.cell? ⟨w.heap.size + 1, 0, none⟩ = some (.int .i64 0) := (hc1 (w.heap.size + 1) 0 (by first | omega | (simp <;> omega))).trans (by first | (simp; done) | (simp [*]; done) | (simp [*, World.cell?_alloc_at, World.cell?_alloc_past, World.cell?_alloc_lt, lt2, lt3, lt4]; done))
    have kc1_1_1 : w1.cell? ⟨w.heap.size + 1, 1, none⟩ = some (.int .i64 0) := (hc1 (w.heap.size + 1) 1 (by first | omega | (simp <;> omega))).trans (by first | (simp; done) | (simp [*]; done) | (simp [*, World.cell?_alloc_at, World.cell?_alloc_past, World.cell?_alloc_lt, lt2, lt3, lt4]; done))
    have kf1_0_1 : w1.frozen? ⟨w.heap.size + 1, 0, none⟩ = false := (hf1 (w.heap.size + 1) 0 (by first | omega | (simp <;> omega))).trans (by first | (simp; done) | (simp [*]; done) | (simp [*, World.frozen?_alloc_at, World.frozen?_alloc_past, lt2, lt3, lt4]; done))
    have kf1_1_1 : w1.frozen? ⟨w.heap.size + 1, 1, none⟩ = false := (hf1 (w.heap.size + 1) 1 (by first | omega | (simp <;> omega))).trans (by first | (simp; done) | (simp [*]; done) | (simp [*, World.frozen?_alloc_at, World.frozen?_alloc_past, lt2, lt3, lt4]; done))
    have hx1 : w.heap.size + 1 < w1.heap.size := by omega
    go_wp2
    refine bodyPost_ret (v := .agg #[.int .i64 rn, .int .i64 rd]) (by simp [results, Tryd.results57, go_sem, *, lt2, lt3, lt4, lt5, lt6]) rfl ⟨rfl, (by repeat (first | (with_reducible refine Below.drew ?_) | (with_reducible refine below_drewN ?_ _) | (with_reducible refine Below.alloc ?_ ?_ _) | (with_reducible refine Below.setCell ?_ ?_ _) | (with_reducible assumption) | (with_reducible exact Below.refl _ _) | omega | (simp <;> omega)))⟩
set_option maxRecDepth 100000 in
set_option maxHeartbeats 1000000 in
theorem sHalf (g : Ro) (m : Int) (r : Ro) (hm : -6 ≤ m ∧ m ≤ 6) (hr : mulQ g (mkR m 2) = r) (w : World) :
    Calls Tryd.prog 56 #[.agg #[.int .i64 g.n, .int .i64 g.d], .int .i64 m] w (Gives (roV r) w) := by
  have hR := fun W => sRatOf m 2 W (by omega) (by omega)
  have hM := fun W => sRatMul g.n g.d (mkR m 2).n (mkR m 2).d W
  have e : mulR g.n g.d (mkR m 2).n (mkR m 2).d = r := hr
  rw [e] at hM
  unfold roV at hR hM ⊢
  generalize mkR m 2 = h at *
  obtain ⟨hn, hd, hk⟩ := h
  obtain ⟨gn, gd, gk⟩ := g
  obtain ⟨rn, rd, rk⟩ := r
  have HR := Lib.hid hR
  have HM := Lib.hid hM
  clear hR hM e hr
  go_enter Tryd.func56, Tryd.ntmps56
  go_wp2_with fail
  (with_reducible refine (HR.out _).mono ?_)
  rintro e w1 ⟨rfl, b1⟩
  have hz1 := b1.size
  obtain ⟨hc1, hf1⟩ := bcell b1
  have B1 : Below w.heap.size w w1 := Below.trans (by repeat (first | (with_reducible refine Below.drew ?_) | (with_reducible refine below_drewN ?_ _) | (with_reducible refine Below.alloc ?_ ?_ _) | (with_reducible refine Below.setCell ?_ ?_ _) | (with_reducible assumption) | (with_reducible exact Below.refl _ _) | omega | (simp <;> omega))) (b1.mono (by first | omega | (simp <;> omega)))
  (try simp at hz1)
  have hy1 : w.heap.size < w1.heap.size := by omega
  clear b1
  have kc1_0_0 : w1.cell? ⟨w.heap.size, 0, none⟩ = some (.int .i64 gn) := (hc1 (w.heap.size) 0 (by first | omega | (simp <;> omega))).trans (by first | (simp; done) | (simp [*]; done) | (simp [*, World.cell?_alloc_at, World.cell?_alloc_past, World.cell?_alloc_lt, lt2, lt3, lt4]; done))
  have kc1_1_0 : w1.cell? ⟨w.heap.size, 1, none⟩ = some (.int .i64 gd) := (hc1 (w.heap.size) 1 (by first | omega | (simp <;> omega))).trans (by first | (simp; done) | (simp [*]; done) | (simp [*, World.cell?_alloc_at, World.cell?_alloc_past, World.cell?_alloc_lt, lt2, lt3, lt4]; done))
  have kc1_0_1 : w1.cell? ⟨w.heap.size + 1, 0, none⟩ = some (.int .i64 0) := (hc1 (w.heap.size + 1) 0 (by first | omega | (simp <;> omega))).trans (by first | (simp; done) | (simp [*]; done) | (simp [*, World.cell?_alloc_at, World.cell?_alloc_past, World.cell?_alloc_lt, lt2, lt3, lt4]; done))
  have kc1_1_1 : w1.cell? ⟨w.heap.size + 1, 1, none⟩ = some (.int .i64 0) := (hc1 (w.heap.size + 1) 1 (by first | omega | (simp <;> omega))).trans (by first | (simp; done) | (simp [*]; done) | (simp [*, World.cell?_alloc_at, World.cell?_alloc_past, World.cell?_alloc_lt, lt2, lt3, lt4]; done))
  have kf1_0_1 : w1.frozen? ⟨w.heap.size + 1, 0, none⟩ = false := (hf1 (w.heap.size + 1) 0 (by first | omega | (simp <;> omega))).trans (by first | (simp; done) | (simp [*]; done) | (simp [*, World.frozen?_alloc_at, World.frozen?_alloc_past, lt2, lt3, lt4]; done))
  have kf1_1_1 : w1.frozen? ⟨w.heap.size + 1, 1, none⟩ = false := (hf1 (w.heap.size + 1) 1 (by first | omega | (simp <;> omega))).trans (by first | (simp; done) | (simp [*]; done) | (simp [*, World.frozen?_alloc_at, World.frozen?_alloc_past, lt2, lt3, lt4]; done))
  have hx1 : w.heap.size + 1 < w1.heap.size := by omega
  go_wp2_with fail
  (with_reducible refine (HM.out _).mono ?_)
  rintro e w2 ⟨rfl, b2⟩
  have hz2 := b2.size
  obtain ⟨hc2, hf2⟩ := bcell b2
  have B2 : Below w.heap.size w w2 := Below.trans (by repeat (first | (with_reducible refine Below.drew ?_) | (with_reducible refine below_drewN ?_ _) | (with_reducible refine Below.alloc ?_ ?_ _) | (with_reducible refine Below.setCell ?_ ?_ _) | (with_reducible assumption) | (with_reducible exact Below.refl _ _) | omega | (simp <;> omega))) (b2.mono (by first | omega | (simp <;> omega)))
  (try simp at hz2)
  have hy2 : w.heap.size < w2.heap.size := by omega
  clear b2
  have kc2_0_1 : w2.cell? ⟨w.heap.size + 1, 0, none⟩ = some (.int .i64 0) := (hc2 (w.heap.size + 1) 0 (by first | omega | (simp <;> omega))).trans (by first | (simp; done) | (simp [*]; done) | (simp [*, World.cell?_alloc_at, World.cell?_alloc_past, World.cell?_alloc_lt, lt2, lt3, lt4]; done))
  have kc2_1_1 : w2.cell? ⟨w.heap.size + 1, 1, none⟩ = some (.int .i64 0) := (hc2 (w.heap.size + 1) 1 (by first | omega | (simp <;> omega))).trans (by first | (simp; done) | (simp [*]; done) | (simp [*, World.cell?_alloc_at, World.cell?_alloc_past, World.cell?_alloc_lt, lt2, lt3, lt4]; done))
  have kf2_0_1 : w2.frozen? ⟨w.heap.size + 1, 0, none⟩ = false := (hf2 (w.heap.size + 1) 0 (by first | omega | (simp <;> omega))).trans (by first | (simp; done) | (simp [*]; done) | (simp [*, World.frozen?_alloc_at, World.frozen?_alloc_past, lt2, lt3, lt4]; done))
  have kf2_1_1 : w2.frozen? ⟨w.heap.size + 1, 1, none⟩ = false := (hf2 (w.heap.size + 1) 1 (by first | omega | (simp <;> omega))).trans (by first | (simp; done) | (simp [*]; done) | (simp [*, World.frozen?_alloc_at, World.frozen?_alloc_past, lt2, lt3, lt4]; done))
  go_wp2
  refine bodyPost_ret (v := .tuple #[.agg #[.int .i64 rn, .int .i64 rd], .bool rk]) (by simp [results, Tryd.results56, go_sem, *, lt2, lt3, lt4, lt5, lt6]) rfl ⟨rfl, (by repeat (first | (with_reducible refine Below.drew ?_) | (with_reducible refine below_drewN ?_ _) | (with_reducible refine Below.alloc ?_ ?_ _) | (with_reducible refine Below.setCell ?_ ?_ _) | (with_reducible assumption) | (with_reducible exact Below.refl _ _) | omega | (simp <;> omega)))⟩
set_option maxRecDepth 100000 in
set_option maxHeartbeats 4000000 in
theorem sOne (s l j s' l' j' u t : Int) (L : LvPair s l j s' l' j') (he : (u, t) ∈ comps j j') (w : World) :
    Calls Tryd.prog 36 #[.agg #[.int .i64 s, .int .i64 l, .int .i64 j], .agg #[.int .i64 s', .int .i64 l', .int .i64 j'], .int .i64 u, .int .i64 t] w
      (Gives (.tuple #[.agg (encSp (spOf j j' (gn s l j) (gn s' l' j') (u, t))).toArray, .bool true]) w) := by
  have C : Cg j j' u t := ⟨L.a.hj, L.b.hj, L.ht, he⟩
  have hb := C.bd
  obtain ⟨q1, q2, q3, q4, q5⟩ := L.half he
  have hF1 := fun W => sFactor s l j L.a W
  have hF2 := fun W => sFactor s' l' j' L.b W
  have hH1 := fun W => sHalf (facR s l j) u (mkR (gn s l j * u) (gd j * 2)) (by omega) q1 W
  have hH2 := fun W => sHalf (facR s' l' j') t (mkR (gn s' l' j' * t) (gd j' * 2)) (by omega) q2 W
  have hS := fun W => sRatSub (mkR (gn s l j * u) (gd j * 2)).n (mkR (gn s l j * u) (gd j * 2)).d (mkR (gn s' l' j' * t) (gd j' * 2)).n (mkR (gn s' l' j' * t) (gd j' * 2)).d W
  have e : subR (mkR (gn s l j * u) (gd j * 2)).n (mkR (gn s l j * u) (gd j * 2)).d (mkR (gn s' l' j' * t) (gd j' * 2)).n (mkR (gn s' l' j' * t) (gd j' * 2)).d = shR j j' (gn s l j) (gn s' l' j') u t := q5
  rw [e] at hS
  have hC := fun W => sClebsch j j' u t C W
  have hk := L.pair.ok he
  have hk1 : (mkR (gn s l j * u) (gd j * 2)).ok = true := by rw [mk_of q3]
  have hk2 : (mkR (gn s' l' j' * t) (gd j' * 2)).ok = true := by rw [mk_of q4]
  have hsp : encSp (spOf j j' (gn s l j) (gn s' l' j') (u, t)) = [.int .i64 u, .int .i64 t, .int .i64 (shR j j' (gn s l j) (gn s' l' j') u t).n, .int .i64 (shR j j' (gn s l j) (gn s' l' j') u t).d, .int .i64 (stR j j' u t).n, .int .i64 (stR j j' u t).d] := rfl
  rw [hsp]
  unfold roV at hH1 hH2 hS
  rw [hk1] at hH1
  rw [hk2] at hH2
  rw [hk.1] at hS
  generalize shR j j' (gn s l j) (gn s' l' j') u t = sh at *
  generalize stR j j' u t = st at *
  generalize mkR (gn s l j * u) (gd j * 2) = A at *
  generalize mkR (gn s' l' j' * t) (gd j' * 2) = B at *
  generalize facR s l j = F at *
  generalize facR s' l' j' = G at *
  generalize cmpI (csum j' 2 j t (u - t)) 0 = sg at *
  obtain ⟨shn, shd, shk⟩ := sh
  obtain ⟨stn, std, stk⟩ := st
  obtain ⟨an, ad, ak⟩ := A
  obtain ⟨bn, bd, bk⟩ := B
  obtain ⟨fn, fd, fk⟩ := F
  obtain ⟨gn', gd', gk⟩ := G
  simp only at hF1 hF2 hH1 hH2 hS hC hk1 hk2
  have HF1 := Lib.hid hF1
  have HF2 := Lib.hid hF2
  have HH1 := Lib.hid hH1
  have HH2 := Lib.hid hH2
  have HS := Lib.hid hS
  have HC := Lib.hid hC
  have p6 : -2 ≤ u - t ∧ u - t ≤ 2 := by omega
  obtain ⟨p61, p62⟩ := p6
  have p7 : -6 ≤ u ∧ u ≤ 6 := hb.1
  obtain ⟨p71, p72⟩ := p7
  have p8 : -6 ≤ t ∧ t ≤ 6 := hb.2.1
  obtain ⟨p81, p82⟩ := p8
  clear hF1 hF2 hH1 hH2 hS hC hk hk1 hk2 hsp e q1 q2 q3 q4 q5 hb C L he
  go_enter Tryd.func36, Tryd.ntmps36
  go_wp2_with fail
  (with_reducible refine (HF1.out _).mono ?_)
  rintro e w1 ⟨rfl, b1⟩
  have hz1 := b1.size
  obtain ⟨hc1, hf1⟩ := bcell b1
  have B1 : Below w.heap.size w w1 := Below.trans (by repeat (first | (with_reducible refine Below.drew ?_) | (with_reducible refine below_drewN ?_ _) | (with_reducible refine Below.alloc ?_ ?_ _) | (with_reducible refine Below.setCell ?_ ?_ _) | (with_reducible assumption) | (with_reducible exact Below.refl _ _) | omega | (simp <;> omega))) (b1.mono (by first | omega | (simp <;> omega)))
  (try simp at hz1)
  have hy1 : w.heap.size < w1.heap.size := by omega
  clear b1
  have kc1_0_0 : w1.cell? ⟨w.heap.size, 0, none⟩ = some (.int .i64 s) := (hc1 (w.heap.size) 0 (by first | omega | (simp <;> omega))).trans (by first | (simp; done) | (simp [*]; done) | (simp [*, World.cell?_alloc_at, World.cell?_alloc_past, World.cell?_alloc_lt, lt2, lt3, lt4]; done))
  have kc1_1_0 : w1.cell? ⟨w.heap.size, 1, none⟩ = some (.int .i64 l) := (hc1 (w.heap.size) 1 (by first | omega | (simp <;> omega))).trans (by first | (simp; done) | (simp [*]; done) | (simp [*, World.cell?_alloc_at, World.cell?_alloc_past, World.cell?_alloc_lt, lt2, lt3, lt4]; done))
  have kc1_2_0 : w1.cell? ⟨w.heap.size, 2, none⟩ = some (.int .i64 j) := (hc1 (w.heap.size) 2 (by first | omega | (simp <;> omega))).trans (by first | (simp; done) | (simp [*]; done) | (simp [*, World.cell?_alloc_at, World.cell?_alloc_past, World.cell?_alloc_lt, lt2, lt3, lt4]; done))
  have kc1_0_1 : w1.cell? ⟨w.heap.size + 1, 0, none⟩ = some (.int .i64 s') := (hc1 (w.heap.size + 1) 0 (by first | omega | (simp <;> omega))).trans (by first | (simp; done) | (simp [*]; done) | (simp [*, World.cell?_alloc_at, World.cell?_alloc_past, World.cell?_alloc_lt, lt2, lt3, lt4]; done))
  have kc1_1_1 : w1.cell? ⟨w.heap.size + 1, 1, none⟩ = some (.int .i64 l') := (hc1 (w.heap.size + 1) 1 (by first | omega | (simp <;> omega))).trans (by first | (simp; done) | (simp [*]; done) | (simp [*, World.cell?_alloc_at, World.cell?_alloc_past, World.cell?_alloc_lt, lt2, lt3, lt4]; done))
  have kc1_2_1 : w1.cell? ⟨w.heap.size + 1, 2, none⟩ = some (.int .i64 j') := (hc1 (w.heap.size + 1) 2 (by first | omega | (simp <;> omega))).trans (by first | (simp; done) | (simp [*]; done) | (simp [*, World.cell?_alloc_at, World.cell?_alloc_past, World.cell?_alloc_lt, lt2, lt3, lt4]; done))
  have kc1_0_2 : w1.cell? ⟨w.heap.size + 1 + 1, 0, none⟩ = some (.int .i64 0) := (hc1 (w.heap.size + 1 + 1) 0 (by first | omega | (simp <;> omega))).trans (by first | (simp; done) | (simp [*]; done) | (simp [*, World.cell?_alloc_at, World.cell?_alloc_past, World.cell?_alloc_lt, lt2, lt3, lt4]; done))
  have kc1_1_2 : w1.cell? ⟨w.heap.size + 1 + 1, 1, none⟩ = some (.int .i64 0) := (hc1 (w.heap.size + 1 + 1) 1 (by first | omega | (simp <;> omega))).trans (by first | (simp; done) | (simp [*]; done) | (simp [*, World.cell?_alloc_at, World.cell?_alloc_past, World.cell?_alloc_lt, lt2, lt3, lt4]; done))
  have kc1_2_2 : w1.cell? ⟨w.heap.size + 1 + 1, 2, none⟩ = some (.int .i64 0) := (hc1 (w.heap.size + 1 + 1) 2 (by first | omega | (simp <;> omega))).trans (by first | (simp; done) | (simp [*]; done) | (simp [*, World.cell?_alloc_at, World.cell?_alloc_past, World.cell?_alloc_lt, lt2, lt3, lt4]; done))
  have kc1_3_2 : w1.cell? ⟨w.heap.size + 1 + 1, 3, none⟩ = some (.int .i64 0) := (hc1 (w.heap.size + 1 + 1) 3 (by first | omega | (simp <;> omega))).trans (by first | (simp; done) | (simp [*]; done) | (simp [*, World.cell?_alloc_at, World.cell?_alloc_past, World.cell?_alloc_lt, lt2, lt3, lt4]; done))
  have kc1_4_2 : w1.cell? ⟨w.heap.size + 1 + 1, 4, none⟩ = some (.int .i64 0) := (hc1 (w.heap.size + 1 + 1) 4 (by first | omega | (simp <;> omega))).trans (by first | (simp; done) | (simp [*]; done) | (simp [*, World.cell?_alloc_at, World.cell?_alloc_past, World.cell?_alloc_lt, lt2, lt3, lt4]; done))
  have kc1_5_2 : w1.cell? ⟨w.heap.size + 1 + 1, 5, none⟩ = some (.int .i64 0) := (hc1 (w.heap.size + 1 + 1) 5 (by first | omega | (simp <;> omega))).trans (by first | (simp; done) | (simp [*]; done) | (simp [*, World.cell?_alloc_at, World.cell?_alloc_past, World.cell?_alloc_lt, lt2, lt3, lt4]; done))
  have kf1_0_2 : w1.frozen? ⟨w.heap.size + 1 + 1, 0, none⟩ = false := (hf1 (w.heap.size + 1 + 1) 0 (by first | omega | (simp <;> omega))).trans (by first | (simp; done) | (simp [*]; done) | (simp [*, World.frozen?_alloc_at, World.frozen?_alloc_past, lt2, lt3, lt4]; done))
  have kf1_1_2 : w1.frozen? ⟨w.heap.size + 1 + 1, 1, none⟩ = false := (hf1 (w.heap.size + 1 + 1) 1 (by first | omega | (simp <;> omega))).trans (by first | (simp; done) | (simp [*]; done) | (simp [*, World.frozen?_alloc_at, World.frozen?_alloc_past, lt2, lt3, lt4]; done))
  have kf1_2_2 : w1.frozen? ⟨w.heap.size + 1 + 1, 2, none⟩ = false := (hf1 (w.heap.size + 1 + 1) 2 (by first | omega | (simp <;> omega))).trans (by first | (simp; done) | (simp [*]; done) | (simp [*, World.frozen?_alloc_at, World.frozen?_alloc_past, lt2, lt3, lt4]; done))
  have kf1_3_2 : w1.frozen? ⟨w.heap.size + 1 + 1, 3, none⟩ = false := (hf1 (w.heap.size + 1 + 1) 3 (by first | omega | (simp <;> omega))).trans (by first | (simp; done) | (simp [*]; done) | (simp [*, World.frozen?_alloc_at, World.frozen?_alloc_past, lt2, lt3, lt4]; done))
  have kf1_4_2 : w1.frozen? ⟨w.heap.size + 1 + 1, 4, none⟩ = false := (hf1 (w.heap.size + 1 + 1) 4 (by first | omega | (simp <;> omega))).trans (by first | (simp; done) | (simp [*]; done) | (simp [*, World.frozen?_alloc_at, World.frozen?_alloc_past, lt2, lt3, lt4]; done))
  have kf1_5_2 : w1.frozen? ⟨w.heap.size + 1 + 1, 5, none⟩ = false := (hf1 (w.heap.size + 1 + 1) 5 (by first | omega | (simp <;> omega))).trans (by first | (simp; done) | (simp [*]; done) | (simp [*, World.frozen?_alloc_at, World.frozen?_alloc_past, lt2, lt3, lt4]; done))
  have hx1 : w.heap.size + 1 < w1.heap.size := by omega
  have hx1' : w.heap.size + 1 + 1 < w1.heap.size := by omega
  go_wp2_with fail
  (with_reducible refine (HH1.out _).mono ?_)
  rintro e w2 ⟨rfl, b2⟩
  have hz2 := b2.size
  obtain ⟨hc2, hf2⟩ := bcell b2
  have B2 : Below w.heap.size w w2 := Below.trans (by repeat (first | (with_reducible refine Below.drew ?_) | (with_reducible refine below_drewN ?_ _) | (with_reducible refine Below.alloc ?_ ?_ _) | (with_reducible refine Below.setCell ?_ ?_ _) | (with_reducible assumption) | (with_reducible exact Below.refl _ _) | omega | (simp <;> omega))) (b2.mono (by first | omega | (simp <;> omega)))
  (try simp at hz2)
  have hy2 : w.heap.size < w2.heap.size := by omega
  clear b2
  have kc2_0_0 : w2.cell? ⟨w.heap.size, 0, none⟩ = some (.int .i64 s) := (hc2 (w.heap.size) 0 (by first | omega | (simp <;> omega))).trans (by first | (simp; done) | (simp [*]; done) | (simp [*, World.cell?_alloc_at, World.cell?_alloc_past, World.cell?_alloc_lt, lt2, lt3, lt4]; done))
  have kc2_1_0 : w2.cell? ⟨w.heap.size, 1, none⟩ = some (.int .i64 l) := (hc2 (w.heap.size) 1 (by first | omega | (simp <;> omega))).trans (by first | (simp; done) | (simp [*]; done) | (simp [*, World.cell?_alloc_at, World.cell?_alloc_past, World.cell?_alloc_lt, lt2, lt3, lt4]; done))
  have kc2_2_0 : w2.cell? ⟨w.heap.size, 2, none⟩ = some (.int .i64 j) := (hc2 (w.heap.size) 2 (by first | omega | (simp <;> omega))).trans (by first | (simp; done) | (simp [*]; done) | (simp [*, World.cell?_alloc_at, World.cell?_alloc_past, World.cell?_alloc_lt, lt2, lt3, lt4]; done))
  have kc2_0_1 : w2.cell? ⟨w.heap.size + 1, 0, none⟩ = some (.int .i64 s') := (hc2 (w.heap.size + 1) 0 (by first | omega | (simp <;> omega))).trans (by first | (simp; done) | (simp [*]; done) | (simp [*, World.cell?_alloc_at, World.cell?_alloc_past, World.cell?_alloc_lt, lt2, lt3, lt4]; done))
  have kc2_1_1 : w2.cell? ⟨w.heap.size + 1, 1, none⟩ = some (.int .i64 l') := (hc2 (w.heap.size + 1) 1 (by first | omega | (simp <;> omega))).trans (by first | (simp; done) | (simp [*]; done) | (simp [*, World.cell?_alloc_at, World.cell?_alloc_past, World.cell?_alloc_lt, lt2, lt3, lt4]; done))
  have kc2_2_1 : w2.cell? ⟨w.heap.size + 1, 2, none⟩ = some (.int .i64 j') := (hc2 (w.heap.size + 1) 2 (by first | omega | (simp <;> omega))).trans (by first | (simp; done) | (simp [*]; done) | (simp [*, World.cell?_alloc_at, World.cell?_alloc_past, World.cell?_alloc_lt, lt2, lt3, lt4]; done))
  have kc2_0_2 : w2.cell? ⟨w.heap.size + 1 + 1, 0, none⟩ = some (.int .i64 0) := (hc2 (w.heap.size + 1 + 1) 0 (by first | omega | (simp <;> omega))).trans (by first | (simp; done) | (simp [*]; done) | (simp [*, World.cell?_alloc_at, World.cell?_alloc_past, World.cell?_alloc_lt, lt2, lt3, lt4]; done))
  have kc2_1_2 : w2.cell? ⟨w.heap.size + 1 + 1, 1, none⟩ = some (.int .i64 0) := (hc2 (w.heap.size + 1 + 1) 1 (by first | omega | (simp <;> omega))).trans (by first | (simp; done) | (simp [*]; done) | (simp [*, World.cell?_alloc_at, World.cell?_alloc_past, World.cell?_alloc_lt, lt2, lt3, lt4]; done))
  have kc2_2_2 : w2.cell? ⟨w.heap.size + 1 + 1, 2, none⟩ = some (.int .i64 0) := (hc2 (w.heap.size + 1 + 1) 2 (by first | omega | (simp <;> omega))).trans (by first | (simp; done) | (simp [*]; done) | (simp [*, World.cell?_alloc_at, World.cell?_alloc_past, World.cell?_alloc_lt, lt2, lt3, lt4]; done))
  have kc2_3_2 : w2.cell? ⟨w.heap.size + 1 + 1, 3, none⟩ = some (.int .i64 0) := (hc2 (w.heap.size + 1 + 1) 3 (by first | omega | (simp <;> omega))).trans (by first | (simp; done) | (simp [*]; done) | (simp [*, World.cell?_alloc_at, World.cell?_alloc_past, World.cell?_alloc_lt, lt2, lt3, lt4]; done))
  have kc2_4_2 : w2.cell? ⟨w.heap.size + 1 + 1, 4, none⟩ = some (.int .i64 0) := (hc2 (w.heap.size + 1 + 1) 4 (by first | omega | (simp <;> omega))).trans (by first | (simp; done) | (simp [*]; done) | (simp [*, World.cell?_alloc_at, World.cell?_alloc_past, World.cell?_alloc_lt, lt2, lt3, lt4]; done))
  have kc2_5_2 : w2.cell? ⟨w.heap.size + 1 + 1, 5, none⟩ = some (.int .i64 0) := (hc2 (w.heap.size + 1 + 1) 5 (by first | omega | (simp <;> omega))).trans (by first | (simp; done) | (simp [*]; done) | (simp [*, World.cell?_alloc_at, World.cell?_alloc_past, World.cell?_alloc_lt, lt2, lt3, lt4]; done))
  have kf2_0_2 : w2.frozen? ⟨w.heap.size + 1 + 1, 0, none⟩ = false := (hf2 (w.heap.size + 1 + 1) 0 (by first | omega | (simp <;> omega))).trans (by first | (simp; done) | (simp [*]; done) | (simp [*, World.frozen?_alloc_at, World.frozen?_alloc_past, lt2, lt3, lt4]; done))
  have kf2_1_2 : w2.frozen? ⟨w.heap.size + 1 + 1, 1, none⟩ = false := (hf2 (w.heap.size + 1 + 1) 1 (by first | omega | (simp <;> omega))).trans (by first | (simp; done) | (simp [*]; done) | (simp [*, World.frozen?_alloc_at, World.frozen?_alloc_past, lt2, lt3, lt4]; done))
  have kf2_2_2 : w2.frozen? ⟨w.heap.size + 1 + 1, 2, none⟩ = false := (hf2 (w.heap.size + 1 + 1) 2 (by first | omega | (simp <;> omega))).trans (by first | (simp; done) | (simp [*]; done) | (simp [*, World.frozen?_alloc_at, World.frozen?_alloc_past, lt2, lt3, lt4]; done))
  have kf2_3_2 : w2.frozen? ⟨w.heap.size + 1 + 1, 3, none⟩ = false := (hf2 (w.heap.size + 1 + 1) 3 (by first | omega | (simp <;> omega))).trans (by first | (simp; done) | (simp [*]; done) | (simp [*, World.frozen?_alloc_at, World.frozen?_alloc_past, lt2, lt3, lt4]; done))
  have kf2_4_2 : w2.frozen? ⟨w.heap.size + 1 + 1, 4, none⟩ = false := (hf2 (w.heap.size + 1 + 1) 4 (by first | omega | (simp <;> omega))).trans (by first | (simp; done) | (simp [*]; done) | (simp [*, World.frozen?_alloc_at, World.frozen?_alloc_past, lt2, lt3, lt4]; done))
  have kf2_5_2 : w2.frozen? ⟨w.heap.size + 1 + 1, 5, none⟩ = false := (hf2 (w.heap.size + 1 + 1) 5 (by first | omega | (simp <;> omega))).trans (by first | (simp; done) | (simp [*]; done) | (simp [*, World.frozen?_alloc_at, World.frozen?_alloc_past, lt2, lt3, lt4]; done))
  have hx2 : w.heap.size + 1 < w2.heap.size := by omega
  have hx2' : w.heap.size + 1 + 1 < w2.heap.size := by omega
  go_wp2_with fail
  (with_reducible refine (HF2.out _).mono ?_)
  rintro e w3 ⟨rfl, b3⟩
  have hz3 := b3.size
  obtain ⟨hc3, hf3⟩ := bcell b3
  have B3 : Below w.heap.size w w3 := Below.trans (by repeat (first | (with_reducible refine Below.drew ?_) | (with_reducible refine below_drewN ?_ _) | (with_reducible refine Below.alloc ?_ ?_ _) | (with_reducible refine Below.setCell ?_ ?_ _) | (with_reducible assumption) | (with_reducible exact Below.refl _ _) | omega | (simp <;> omega))) (b3.mono (by first | omega | (simp <;> omega)))
  (try simp at hz3)
  have hy3 : w.heap.size < w3.heap.size := by omega
  clear b3
  have kc3_0_0 : w3.cell? ⟨w.heap.size, 0, none⟩ = some (.int .i64 s) := (hc3 (w.heap.size) 0 (by first | omega | (simp <;> omega))).trans (by first | (simp; done) | (simp [*]; done) | (simp [*, World.cell?_alloc_at, World.cell?_alloc_past, World.cell?_alloc_lt, lt2, lt3, lt4]; done))
  have kc3_1_0 : w3.cell? ⟨w.heap.size, 1, none⟩ = some (.int .i64 l) := (hc3 (w.heap.size) 1 (by first | omega | (simp <;> omega))).trans (by first | (simp; done) | (simp [*]; done) | (simp [*, World.cell?_alloc_at, World.cell?_alloc_past, World.cell?_alloc_lt, lt2, lt3, lt4]; done))
  have kc3_2_0 : w3.cell? ⟨w.heap.size, 2, none⟩ = some (.int .i64 j) := (hc3 (w.heap.size) 2 (by first | omega | (simp <;> omega))).trans (by first | (simp; done) | (simp [*]; done) | (simp [*, World.cell?_alloc_at, World.cell?_alloc_past, World.cell?_alloc_lt, lt2, lt3, lt4]; done))
  have kc3_0_1 : w3.cell? ⟨w.heap.size + 1, 0, none⟩ = some (.int .i64 s') := (hc3 (w.heap.size + 1) 0 (by first | omega | (simp <;> omega))).trans (by first | (simp; done) | (simp [*]; done) | (simp [*, World.cell?_alloc_at, World.cell?_alloc_past, World.cell?_alloc_lt, lt2, lt3, lt4]; done))
  have kc3_1_1 : w3.cell? ⟨w.heap.size + 1, 1, none⟩ = some (.int .i64 l') := (hc3 (w.heap.size + 1) 1 (by first | omega | (simp <;> omega))).trans (by first | (simp; done) | (simp [*]; done) | (simp [*, World.cell?_alloc_at, World.cell?_alloc_past, World.cell?_alloc_lt, lt2, lt3, lt4]; done))
  have kc3_2_1 : w3.cell? ⟨w.heap.size + 1, 2, none⟩ = some (.int .i64 j') := (hc3 (w.heap.size + 1) 2 (by first | omega | (simp <;> omega))).trans (by first | (simp; done) | (simp [*]; done) | (simp [*, World.cell?_alloc_at, World.cell?_alloc_past, World.cell?_alloc_lt, lt2, lt3, lt4]; done))
  have kc3_0_2 : w3.cell? ⟨w.heap.size + 1 + 1, 0, none⟩ = some (.int .i64 0) := (hc3 (w.heap.size + 1 + 1) 0 (by first | omega | (simp <;> omega))).trans (by first | (simp; done) | (simp [*]; done) | (simp [*, World.cell?_alloc_at, World.cell?_alloc_past, World.cell?_alloc_lt, lt2, lt3, lt4]; done))
  have kc3_1_2 : w3.cell? ⟨w.heap.size + 1 + 1, 1, none⟩ = some (.int .i64 0) := (hc3 (w.heap.size + 1 + 1) 1 (by first | omega | (simp <;> omega))).trans (by first | (simp; done) | (simp [*]; done) | (simp [*, World.cell?_alloc_at, World.cell?_alloc_past, World.cell?_alloc_lt, lt2, lt3, lt4]; done))
  have kc3_2_2 : w3.cell? ⟨w.heap.size + 1 + 1, 2, none⟩ = some (.int .i64 0) := (hc3 (w.heap.size + 1 + 1) 2 (by first | omega | (simp <;> omega))).trans (by first | (simp; done) | (simp [*]; done) | (simp [*, World.cell?_alloc_at, World.cell?_alloc_past, World.cell?_alloc_lt, lt2, lt3, lt4]; done))
  have kc3_3_2 : w3.cell? ⟨w.heap.size + 1 + 1, 3, none⟩ = some (.int .i64 0) := (hc3 (w.heap.size + 1 + 1) 3 (by first | omega | (simp <;> omega))).trans (by first | (simp; done) | (simp [*]; done) | (simp [*, World.cell?_alloc_at, World.cell?_alloc_past, World.cell?_alloc_lt, lt2, lt3, lt4]; done))
  have kc3_4_2 : w3.cell? ⟨w.heap.size + 1 + 1, 4, none⟩ = some (.int .i64 0) := (hc3 (w.heap.size + 1 + 1) 4 (by first | omega | (simp <;> omega))).trans (by first | (simp; done) | (simp [*]; done) | (simp [*, World.cell?_alloc_at, World.cell?_alloc_past, World.cell?_alloc_lt, lt2, lt3, lt4]; done))
  have kc3_5_2 : w3.cell? ⟨w.heap.size + 1 + 1, 5, none⟩ = some (.int .i64 0) := (hc3 (w.heap.size + 1 + 1) 5 (by first | omega | (simp <;> omega))).trans (by first | (simp; done) | (simp [*]; done) | (simp [*, World.cell?_alloc_at, World.cell?_alloc_past, World.cell?_alloc_lt, lt2, lt3, lt4]; done))
  have kf3_0_2 : w3.frozen? ⟨w.heap.size + 1 + 1, 0, none⟩ = false := (hf3 (w.heap.size + 1 + 1) 0 (by first | omega | (simp <;> omega))).trans (by first | (simp; done) | (simp [*]; done) | (simp [*, World.frozen?_alloc_at, World.frozen?_alloc_past, lt2, lt3, lt4]; done))
  have kf3_1_2 : w3.frozen? ⟨w.heap.size + 1 + 1, 1, none⟩ = false := (hf3 (w.heap.size + 1 + 1) 1 (by first | omega | (simp <;> omega))).trans (by first | (simp; done) | (simp [*]; done) | (simp [*, World.frozen?_alloc_at, World.frozen?_alloc_past, lt2, lt3, lt4]; done))
  have kf3_2_2 : w3.frozen? ⟨w.heap.size + 1 + 1, 2, none⟩ = false := (hf3 (w.heap.size + 1 + 1) 2 (by first | omega | (simp <;> omega))).trans (by first | (simp; done) | (simp [*]; done) | (simp [*, World.frozen?_alloc_at, World.frozen?_alloc_past, lt2, lt3, lt4]; done))
  have kf3_3_2 : w3.frozen? ⟨w.heap.size + 1 + 1, 3, none⟩ = false := (hf3 (w.heap.size + 1 + 1) 3 (by first | omega | (simp <;> omega))).trans (by first | (simp; done) | (simp [*]; done) | (simp [*, World.frozen?_alloc_at, World.frozen?_alloc_past, lt2, lt3, lt4]; done))
  have kf3_4_2 : w3.frozen? ⟨w.heap.size + 1 + 1, 4, none⟩ = false := (hf3 (w.heap.size + 1 + 1) 4 (by first | omega | (simp <;> omega))).trans (by first | (simp; done) | (simp [*]; done) | (simp [*, World.frozen?_alloc_at, World.frozen?_alloc_past, lt2, lt3, lt4]; done))
  have kf3_5_2 : w3.frozen? ⟨w.heap.size + 1 + 1, 5, none⟩ = false := (hf3 (w.heap.size + 1 + 1) 5 (by first | omega | (simp <;> omega))).trans (by first | (simp; done) | (simp [*]; done) | (simp [*, World.frozen?_alloc_at, World.frozen?_alloc_past, lt2, lt3, lt4]; done))
  have kc3_0_0 : w3.cell? ⟨w2.heap.size, 0, none⟩ = some (.int .i64 an) := (hc3 (w2.heap.size) 0 (by first | omega | (simp <;> omega))).trans (by first | (simp; done) | (simp [*]; done) | (simp [*, World.cell?_alloc_at, World.cell?_alloc_past, World.cell?_alloc_lt, lt2, lt3, lt4]; done))
  have kc3_1_0 : w3.cell? ⟨w2.heap.size, 1, none⟩ = some (.int .i64 ad) := (hc3 (w2.heap.size) 1 (by first | omega | (simp <;> omega))).trans (by first | (simp; done) | (simp [*]; done) | (simp [*, World.cell?_alloc_at, World.cell?_alloc_past, World.cell?_alloc_lt, lt2, lt3, lt4]; done))
  have hx3 : w.heap.size + 1 < w3.heap.size := by omega
  have hx3' : w.heap.size + 1 + 1 < w3.heap.size := by omega
  have hy3_2 : w2.heap.size < w3.heap.size := by omega
  go_wp2_with fail
  (with_reducible refine (HH2.out _).mono ?_)
  rintro e w4 ⟨rfl, b4⟩
  have hz4 := b4.size
  obtain ⟨hc4, hf4⟩ := bcell b4
  have B4 : Below w.heap.size w w4 := Below.trans (by repeat (first | (with_reducible refine Below.drew ?_) | (with_reducible refine below_drewN ?_ _) | (with_reducible refine Below.alloc ?_ ?_ _) | (with_reducible refine Below.setCell ?_ ?_ _) | (with_reducible assumption) | (with_reducible exact Below.refl _ _) | omega | (simp <;> omega))) (b4.mono (by first | omega | (simp <;> omega)))
  (try simp at hz4)
  have hy4 : w.heap.size < w4.heap.size := by omega
  clear b4
  have kc4_0_0 : w4.cell? ⟨w.heap.size, 0, none⟩ = some (.int .i64 s) := (hc4 (w.heap.size) 0 (by first | omega | (simp <;> omega))).trans (by first | (simp; done) | (simp [*]; done) | (simp [*, World.cell?_alloc_at, World.cell?_alloc_past, World.cell?_alloc_lt, lt2, lt3, lt4]; done))
  have kc4_1_0 : w4.cell? ⟨w.heap.size, 1, none⟩ = some (.int .i64 l) := (hc4 (w.heap.size) 1 (by first | omega | (simp <;> omega))).trans (by first | (simp; done) | (simp [*]; done) | (simp [*, World.cell?_alloc_at, World.cell?_alloc_past, World.cell?_alloc_lt, lt2, lt3, lt4]; done))
  have kc4_2_0 : w4.cell? ⟨w.heap.size, 2, none⟩ = some (.int .i64 j) := (hc4 (w.heap.size) 2 (by first | omega | (simp <;> omega))).trans (by first | (simp; done) | (simp [*]; done) | (simp [*, World.cell?_alloc_at, World.cell?_alloc_past, World.cell?_alloc_lt, lt2, lt3, lt4]; done))
  have kc4_0_1 : w4.cell? ⟨w.heap.size + 1, 0, none⟩ = some (.int .i64 s') := (hc4 (w.heap.size + 1) 0 (by first | omega | (simp <;> omega))).trans (by first | (simp; done) | (simp [*]; done) | (simp [*, World.cell?_alloc_at, World.cell?_alloc_past, World.cell?_alloc_lt, lt2, lt3, lt4]; done))
  have kc4_1_1 : w4.cell? ⟨w.heap.size + 1, 1, none⟩ = some (.int .i64 l') := (hc4 (w.heap.size + 1) 1 (by first | omega | (simp <;> omega))).trans (by first | (simp; done) | (simp [*]; done) | (simp [*, World.cell?_alloc_at, World.cell?_alloc_past, World.cell?_alloc_lt, lt2, lt3, lt4]; done))
  have kc4_2_1 : w4.cell? ⟨w.heap.size + 1, 2, none⟩ = some (.int .i64 j') := (hc4 (w.heap.size + 1) 2 (by first | omega | (simp <;> omega))).trans (by first | (simp; done) | (simp [*]; done) | (simp [*, World.cell?_alloc_at, World.cell?_alloc_past, World.cell?_alloc_lt, lt2, lt3, lt4]; done))
  have kc4_0_2 : w4.cell? ⟨w.heap.size + 1 + 1, 0, none⟩ = some (.int .i64 0) := (hc4 (w.heap.size + 1 + 1) 0 (by first | omega | (simp <;> omega))).trans (by first | (simp; done) | (simp [*]; done) | (simp [*, World.cell?_alloc_at, World.cell?_alloc_past, World.cell?_alloc_lt, lt2, lt3, lt4]; done))
  have kc4_1_2 : w4.cell? ⟨w.heap.size + 1 + 1, 1, none⟩ = some (.int .i64 0) := (hc4 (w.heap.size + 1 + 1) 1 (by first | omega | (simp <;> omega))).trans (by first | (simp; done) | (simp [*]; done) | (simp [*, World.cell?_alloc_at, World.cell?_alloc_past, World.cell?_alloc_lt, lt2, lt3, lt4]; done))
  have kc4_2_2 : w4.cell? ⟨w.heap.size + 1 + 1, 2, none⟩ = some (.int .i64 0) := (hc4 (w.heap.size + 1 + 1) 2 (by first | omega | (simp <;> omega))).trans (by first | (simp; done) | (simp [*]; done) | (simp [*, World.cell?_alloc_at, World.cell?_alloc_past, World.cell?_alloc_lt, lt2, lt3, lt4]; done))
  have kc4_3_2 : w4.cell? ⟨w.heap.size + 1 + 1, 3, none⟩ = some (.int .i64 0) := (hc4 (w.heap.size + 1 + 1) 3 (by first | omega | (simp <;> omega))).trans (by first | (simp; done) | (simp [*]; done) | (simp [*, World.cell?_alloc_at, World.cell?_alloc_past, World.cell?_alloc_lt, lt2, lt3, lt4]; done))
  have kc4_4_2 : w4.cell? ⟨w.heap.size + 1 + 1, 4, none⟩ = some (.int .i64 0) := (hc4 (w.heap.size + 1 + 1) 4 (by first | omega | (simp <;> omega))).trans (by first | (simp; done) | (simp [*]; done) | (simp [*, World.cell?_alloc_at, World.cell?_alloc_past, World.cell?_alloc_lt, lt2, lt3, lt4]; done))
  have kc4_5_2 : w4.cell? ⟨w.heap.size + 1 + 1, 5, none⟩ = some (.int .i64 0) := (hc4 (w.heap.size + 1 + 1) 5 (by first | omega | (simp <;> omega))).trans (by first | (simp; done) | (simp [*]; done) | (simp [*, World.cell?_alloc_at, World.cell?_alloc_past, World.cell?_alloc_lt, lt2, lt3, lt4]; done))
  have kf4_0_2 : w4.frozen? ⟨w.heap.size + 1 + 1, 0, none⟩ = false := (hf4 (w.heap.size + 1 + 1) 0 (by first | omega | (simp <;> omega))).trans (by first | (simp; done) | (simp [*]; done) | (simp [*, World.frozen?_alloc_at, World.frozen?_alloc_past, lt2, lt3, lt4]; done))
  have kf4_1_2 : w4.frozen? ⟨w.heap.size + 1 + 1, 1, none⟩ = false := (hf4 (w.heap.size + 1 + 1) 1 (by first | omega | (simp <;> omega))).trans (by first | (simp; done) | (simp [*]; done) | (simp [*, World.frozen?_alloc_at, World.frozen?_alloc_past, lt2, lt3, lt4]; done))
  have kf4_2_2 : w4.frozen? ⟨w.heap.size + 1 + 1, 2, none⟩ = false := (hf4 (w.heap.size + 1 + 1) 2 (by first | omega | (simp <;> omega))).trans (by first | (simp; done) | (simp [*]; done) | (simp [*, World.frozen?_alloc_at, World.frozen?_alloc_past, lt2, lt3, lt4]; done))
  have kf4_3_2 : w4.frozen? ⟨w.heap.size + 1 + 1, 3, none⟩ = false := (hf4 (w.heap.size + 1 + 1) 3 (by first | omega | (simp <;> omega))).trans (by first | (simp; done) | (simp [*]; done) | (simp [*, World.frozen?_alloc_at, World.frozen?_alloc_past, lt2, lt3, lt4]; done))
  have kf4_4_2 : w4.frozen? ⟨w.heap.size + 1 + 1, 4, none⟩ = false := (hf4 (w.heap.size + 1 + 1) 4 (by first | omega | (simp <;> omega))).trans (by first | (simp; done) | (simp [*]; done) | (simp [*, World.frozen?_alloc_at, World.frozen?_alloc_past, lt2, lt3, lt4]; done))
  have kf4_5_2 : w4.frozen? ⟨w.heap.size + 1 + 1, 5, none⟩ = false := (hf4 (w.heap.size + 1 + 1) 5 (by first | omega | (simp <;> omega))).trans (by first | (simp; done) | (simp [*]; done) | (simp [*, World.frozen?_alloc_at, World.frozen?_alloc_past, lt2, lt3, lt4]; done))
  have kc4_0_0 : w4.cell? ⟨w2.heap.size, 0, none⟩ = some (.int .i64 an) := (hc4 (w2.heap.size) 0 (by first | omega | (simp <;> omega))).trans (by first | (simp; done) | (simp [*]; done) | (simp [*, World.cell?_alloc_at, World.cell?_alloc_past, World.cell?_alloc_lt, lt2, lt3, lt4]; done))
  have kc4_1_0 : w4.cell? ⟨w2.heap.size, 1, none⟩ = some (.int .i64 ad) := (hc4 (w2.heap.size) 1 (by first | omega | (simp <;> omega))).trans (by first | (simp; done) | (simp [*]; done) | (simp [*, World.cell?_alloc_at, World.cell?_alloc_past, World.cell?_alloc_lt, lt2, lt3, lt4]; done))
  have hx4 : w.heap.size + 1 < w4.heap.size := by omega
  have hx4' : w.heap.size + 1 + 1 < w4.heap.size := by omega
  have hy4_2 : w2.heap.size < w4.heap.size := by omega
  go_wp2_with fail
  (with_reducible refine (HS.out _).mono ?_)
  rintro e w5 ⟨rfl, b5⟩
  have hz5 := b5.size
  obtain ⟨hc5, hf5⟩ := bcell b5
  have B5 : Below w.heap.size w w5 := Below.trans (by repeat (first | (with_reducible refine Below.drew ?_) | (with_reducible refine below_drewN ?_ _) | (with_reducible refine Below.alloc ?_ ?_ _) | (with_reducible refine Below.setCell ?_ ?_ _) | (with_reducible assumption) | (with_reducible exact Below.refl _ _) | omega | (simp <;> omega))) (b5.mono (by first | omega | (simp <;> omega)))
  (try simp at hz5)
  have hy5 : w.heap.size < w5.heap.size := by omega
  clear b5
  have kc5_0_0 : w5.cell? ⟨w.heap.size, 0, none⟩ = some (.int .i64 s) := (hc5 (w.heap.size) 0 (by first | omega | (simp <;> omega))).trans (by first | (simp; done) | (simp [*]; done) | (simp [*, World.cell?_alloc_at, World.cell?_alloc_past, World.cell?_alloc_lt, lt2, lt3, lt4]; done))
  have kc5_1_0 : w5.cell? ⟨w.heap.size, 1, none⟩ = some (.int .i64 l) := (hc5 (w.heap.size) 1 (by first | omega | (simp <;> omega))).trans (by first | (simp; done) | (simp [*]; done) | (simp [*, World.cell?_alloc_at, World.cell?_alloc_past, World.cell?_alloc_lt, lt2, lt3, lt4]; done))
  have kc5_2_0 : w5.cell? ⟨w.heap.size, 2, none⟩ = some (.int .i64 j) := (hc5 (w.heap.size) 2 (by first | omega | (simp <;> omega))).trans (by first | (simp; done) | (simp [*]; done) | (simp [*, World.cell?_alloc_at, World.cell?_alloc_past, World.cell?_alloc_lt, lt2, lt3, lt4]; done))
  have kc5_0_1 : w5.cell? ⟨w.heap.size + 1, 0, none⟩ = some (.int .i64 s') := (hc5 (w.heap.size + 1) 0 (by first | omega | (simp <;> omega))).trans (by first | (simp; done) | (simp [*]; done) | (simp [*, World.cell?_alloc_at, World.cell?_alloc_past, World.cell?_alloc_lt, lt2, lt3, lt4]; done))
  have kc5_1_1 : w5.cell? ⟨w.heap.size + 1, 1, none⟩ = some (.int .i64 l') := (hc5 (w.heap.size + 1) 1 (by first | omega | (simp <;> omega))).trans (by first | (simp; done) | (simp [*]; done) | (simp [*, World.cell?_alloc_at, World.cell?_alloc_past, World.cell?_alloc_lt, lt2, lt3, lt4]; done))
  have kc5_2_1 : w5.cell? ⟨w.heap.size + 1, 2, none⟩ = some (.int .i64 j') := (hc5 (w.heap.size + 1) 2 (by first | omega | (simp <;> omega))).trans (by first | (simp; done) | (simp [*]; done) | (simp [*, World.cell?_alloc_at, World.cell?_alloc_past, World.cell?_alloc_lt, lt2, lt3, lt4]; done))
  have kc5_0_2 : w5.cell? ⟨w.heap.size + 1 + 1, 0, none⟩ = some (.int .i64 0) := (hc5 (w.heap.size + 1 + 1) 0 (by first | omega | (simp <;> omega))).trans (by first | (simp; done) | (simp [*]; done) | (simp [*, World.cell?_alloc_at, World.cell?_alloc_past, World.cell?_alloc_lt, lt2, lt3, lt4]; done))
  have kc5_1_2 : w5.cell? ⟨w.heap.size + 1 + 1, 1, none⟩ = some (.int .i64 0) := (hc5 (w.heap.size + 1 + 1) 1 (by first | omega | (simp <;> omega))).trans (by first | (simp; done) | (simp [*]; done) | (simp [*, World.cell?_alloc_at, World.cell?_alloc_past, World.cell?_alloc_lt, lt2, lt3, lt4]; done))
  have kc5_2_2 : w5.cell? ⟨w.heap.size + 1 + 1, 2, none⟩ = some (.int .i64 0) := (hc5 (w.heap.size + 1 + 1) 2 (by first | omega | (simp <;> omega))).trans (by first | (simp; done) | (simp [*]; done) | (simp [*, World.cell?_alloc_at, World.cell?_alloc_past, World.cell?_alloc_lt, lt2, lt3, lt4]; done))
  have kc5_3_2 : w5.cell? ⟨w.heap.size + 1 + 1, 3, none⟩ = some (.int .i64 0) := (hc5 (w.heap.size + 1 + 1) 3 (by first | omega | (simp <;> omega))).trans (by first | (simp; done) | (simp [*]; done) | (simp [*, World.cell?_alloc_at, World.cell?_alloc_past, World.cell?_alloc_lt, lt2, lt3, lt4]; done))
  have kc5_4_2 : w5.cell? ⟨w.heap.size + 1 + 1, 4, none⟩ = some (.int .i64 0) := (hc5 (w.heap.size + 1 + 1) 4 (by first | omega | (simp <;> omega))).trans (by first | (simp; done) | (simp [*]; done) | (simp [*, World.cell?_alloc_at, World.cell?_alloc_past, World.cell?_alloc_lt, lt2, lt3, lt4]; done))
  have kc5_5_2 : w5.cell? ⟨w.heap.size + 1 + 1, 5, none⟩ = some (.int .i64 0) := (hc5 (w.heap.size + 1 + 1) 5 (by first | omega | (simp <;> omega))).trans (by first | (simp; done) | (simp [*]; done) | (simp [*, World.cell?_alloc_at, World.cell?_alloc_past, World.cell?_alloc_lt, lt2, lt3, lt4]; done))
  have kf5_0_2 : w5.frozen? ⟨w.heap.size + 1 + 1, 0, none⟩ = false := (hf5 (w.heap.size + 1 + 1) 0 (by first | omega | (simp <;> omega))).trans (by first | (simp; done) | (simp [*]; done) | (simp [*, World.frozen?_alloc_at, World.frozen?_alloc_past, lt2, lt3, lt4]; done))
  have kf5_1_2 : w5.frozen? ⟨w.heap.size + 1 + 1, 1, none⟩ = false := (hf5 (w.heap.size + 1 + 1) 1 (by first | omega | (simp <;> omega))).trans (by first | (simp; done) | (simp [*]; done) | (simp [*, World.frozen?_alloc_at, World.frozen?_alloc_past, lt2, lt3, lt4]; done))
  have kf5_2_2 : w5.frozen? ⟨w.heap.size + 1 + 1, 2, none⟩ = false := (hf5 (w.heap.size + 1 + 1) 2 (by first | omega | (simp <;> omega))).trans (by first | (simp; done) | (simp [*]; done) | (simp [*, World.frozen?_alloc_at, World.frozen?_alloc_past, lt2, lt3, lt4]; done))
  have kf5_3_2 : w5.frozen? ⟨w.heap.size + 1 + 1, 3, none⟩ = false := (hf5 (w.heap.size + 1 + 1) 3 (by first | omega | (simp <;> omega))).trans (by first | (simp; done) | (simp [*]; done) | (simp [*, World.frozen?_alloc_at, World.frozen?_alloc_past, lt2, lt3, lt4]; done))
  have kf5_4_2 : w5.frozen? ⟨w.heap.size + 1 + 1, 4, none⟩ = false := (hf5 (w.heap.size + 1 + 1) 4 (by first | omega | (simp <;> omega))).trans (by first | (simp; done) | (simp [*]; done) | (simp [*, World.frozen?_alloc_at, World.frozen?_alloc_past, lt2, lt3, lt4]; done))
  have kf5_5_2 : w5.frozen? ⟨w.heap.size + 1 + 1, 5, none⟩ = false := (hf5 (w.heap.size + 1 + 1) 5 (by first | omega | (simp <;> omega))).trans (by first | (simp; done) | (simp [*]; done) | (simp [*, World.frozen?_alloc_at, World.frozen?_alloc_past, lt2, lt3, lt4]; done))
  have hx5 : w.heap.size + 1 < w5.heap.size := by omega
  have hx5' : w.heap.size + 1 + 1 < w5.heap.size := by omega
  go_wp2_with fail
  (with_reducible refine (HC.out _).mono ?_)
  rintro e w6 ⟨rfl, b6⟩
  have hz6 := b6.size
  obtain ⟨hc6, hf6⟩ := bcell b6
  have B6 : Below w.heap.size w w6 := Below.trans (by repeat (first | (with_reducible refine Below.drew ?_) | (with_reducible refine below_drewN ?_ _) | (with_reducible refine Below.alloc ?_ ?_ _) | (with_reducible refine Below.setCell ?_ ?_ _) | (with_reducible assumption) | (with_reducible exact Below.refl _ _) | omega | (simp <;> omega))) (b6.mono (by first | omega | (simp <;> omega)))
  (try simp at hz6)
  have hy6 : w.heap.size < w6.heap.size := by omega
  clear b6
  have kc6_0_0 : w6.cell? ⟨w.heap.size, 0, none⟩ = some (.int .i64 s) := (hc6 (w.heap.size) 0 (by first | omega | (simp <;> omega))).trans (by first | (simp; done) | (simp [*]; done) | (simp [*, World.cell?_alloc_at, World.cell?_alloc_past, World.cell?_alloc_lt, lt2, lt3, lt4]; done))
  have kc6_1_0 : w6.cell? ⟨w.heap.size, 1, none⟩ = some (.int .i64 l) := (hc6 (w.heap.size) 1 (by first | omega | (simp <;> omega))).trans (by first | (simp; done) | (simp [*]; done) | (simp [*, World.cell?_alloc_at, World.cell?_alloc_past, World.cell?_alloc_lt, lt2, lt3, lt4]; done))
  have kc6_2_0 : w6.cell? ⟨w.heap.size, 2, none⟩ = some (.int .i64 j) := (hc6 (w.heap.size) 2 (by first | omega | (simp <;> omega))).trans (by first | (simp; done) | (simp [*]; done) | (simp [*, World.cell?_alloc_at, World.cell?_alloc_past, World.cell?_alloc_lt, lt2, lt3, lt4]; done))
  have kc6_0_1 : w6.cell? ⟨w.heap.size + 1, 0, none⟩ = some (.int .i64 s') := (hc6 (w.heap.size + 1) 0 (by first | omega | (simp <;> omega))).trans (by first | (simp; done) | (simp [*]; done) | (simp [*, World.cell?_alloc_at, World.cell?_alloc_past, World.cell?_alloc_lt, lt2, lt3, lt4]; done))
  have kc6_1_1 : w6.cell? ⟨w.heap.size + 1, 1, none⟩ = some (.int .i64 l') := (hc6 (w.heap.size + 1) 1 (by first | omega | (simp <;> omega))).trans (by first | (simp; done) | (simp [*]; done) | (simp [*, World.cell?_alloc_at, World.cell?_alloc_past, World.cell?_alloc_lt, lt2, lt3, lt4]; done))
  have kc6_2_1 : w6.cell? ⟨w.heap.size + 1, 2, none⟩ = some (.int .i64 j') := (hc6 (w.heap.size + 1) 2 (by first | omega | (simp <;> omega))).trans (by first | (simp; done) | (simp [*]; done) | (simp [*, World.cell?_alloc_at, World.cell?_alloc_past, World.cell?_alloc_lt, lt2, lt3, lt4]; done))
  have kc6_0_2 : w6.cell? ⟨w.heap.size + 1 + 1, 0, none⟩ = some (.int .i64 0) := (hc6 (w.heap.size + 1 + 1) 0 (by first | omega | (simp <;> omega))).trans (by first | (simp; done) | (simp [*]; done) | (simp [*, World.cell?_alloc_at, World.cell?_alloc_past, World.cell?_alloc_lt, lt2, lt3, lt4]; done))
  have kc6_1_2 : w6.cell? ⟨w.heap.size + 1 + 1, 1, none⟩ = some (.int .i64 0) := (hc6 (w.heap.size + 1 + 1) 1 (by first | omega | (simp <;> omega))).trans (by first | (simp; done) | (simp [*]; done) | (simp [*, World.cell?_alloc_at, World.cell?_alloc_past, World.cell?_alloc_lt, lt2, lt3, lt4]; done))
  have kc6_2_2 : w6.cell? ⟨w.heap.size + 1 + 1, 2, none⟩ = some (.int .i64 0) := (hc6 (w.heap.size + 1 + 1) 2 (by first | omega | (simp <;> omega))).trans (by first | (simp; done) | (simp [*]; done) | (simp [*, World.cell?_alloc_at, World.cell?_alloc_past, World.cell?_alloc_lt, lt2, lt3, lt4]; done))
  have kc6_3_2 : w6.cell? ⟨w.heap.size + 1 + 1, 3, none⟩ = some (.int .i64 0) := (hc6 (w.heap.size + 1 + 1) 3 (by first | omega | (simp <;> omega))).trans (by first | (simp; done) | (simp [*]; done) | (simp [*, World.cell?_alloc_at, World.cell?_alloc_past, World.cell?_alloc_lt, lt2, lt3, lt4]; done))
  have kc6_4_2 : w6.cell? ⟨w.heap.size + 1 + 1, 4, none⟩ = some (.int .i64 0) := (hc6 (w.heap.size + 1 + 1) 4 (by first | omega | (simp <;> omega))).trans (by first | (simp; done) | (simp [*]; done) | (simp [*, World.cell?_alloc_at, World.cell?_alloc_past, World.cell?_alloc_lt, lt2, lt3, lt4]; done))
  have kc6_5_2 : w6.cell? ⟨w.heap.size + 1 + 1, 5, none⟩ = some (.int .i64 0) := (hc6 (w.heap.size + 1 + 1) 5 (by first | omega | (simp <;> omega))).trans (by first | (simp; done) | (simp [*]; done) | (simp [*, World.cell?_alloc_at, World.cell?_alloc_past, World.cell?_alloc_lt, lt2, lt3, lt4]; done))
  have kf6_0_2 : w6.frozen? ⟨w.heap.size + 1 + 1, 0, none⟩ = false := (hf6 (w.heap.size + 1 + 1) 0 (by first | omega | (simp <;> omega))).trans (by first | (simp; done) | (simp [*]; done) | (simp [*, World.frozen?_alloc_at, World.frozen?_alloc_past, lt2, lt3, lt4]; done))
  have kf6_1_2 : w6.frozen? ⟨w.heap.size + 1 + 1, 1, none⟩ = false := (hf6 (w.heap.size + 1 + 1) 1 (by first | omega | (simp <;> omega))).trans (by first | (simp; done) | (simp [*]; done) | (simp [*, World.frozen?_alloc_at, World.frozen?_alloc_past, lt2, lt3, lt4]; done))
  have kf6_2_2 : w6.frozen? ⟨w.heap.size + 1 + 1, 2, none⟩ = false := (hf6 (w.heap.size + 1 + 1) 2 (by first | omega | (simp <;> omega))).trans (by first | (simp; done) | (simp [*]; done) | (simp [*, World.frozen?_alloc_at, World.frozen?_alloc_past, lt2, lt3, lt4]; done))
  have kf6_3_2 : w6.frozen? ⟨w.heap.size + 1 + 1, 3, none⟩ = false := (hf6 (w.heap.size + 1 + 1) 3 (by first | omega | (simp <;> omega))).trans (by first | (simp; done) | (simp [*]; done) | (simp [*, World.frozen?_alloc_at, World.frozen?_alloc_past, lt2, lt3, lt4]; done))
  have kf6_4_2 : w6.frozen? ⟨w.heap.size + 1 + 1, 4, none⟩ = false := (hf6 (w.heap.size + 1 + 1) 4 (by first | omega | (simp <;> omega))).trans (by first | (simp; done) | (simp [*]; done) | (simp [*, World.frozen?_alloc_at, World.frozen?_alloc_past, lt2, lt3, lt4]; done))
  have kf6_5_2 : w6.frozen? ⟨w.heap.size + 1 + 1, 5, none⟩ = false := (hf6 (w.heap.size + 1 + 1) 5 (by first | omega | (simp <;> omega))).trans (by first | (simp; done) | (simp [*]; done) | (simp [*, World.frozen?_alloc_at, World.frozen?_alloc_past, lt2, lt3, lt4]; done))
  have kc6_0_0 : w6.cell? ⟨w5.heap.size, 0, none⟩ = some (.int .i64 shn) := (hc6 (w5.heap.size) 0 (by first | omega | (simp <;> omega))).trans (by first | (simp; done) | (simp [*]; done) | (simp [*, World.cell?_alloc_at, World.cell?_alloc_past, World.cell?_alloc_lt, lt2, lt3, lt4]; done))
  have kc6_1_0 : w6.cell? ⟨w5.heap.size, 1, none⟩ = some (.int .i64 shd) := (hc6 (w5.heap.size) 1 (by first | omega | (simp <;> omega))).trans (by first | (simp; done) | (simp [*]; done) | (simp [*, World.cell?_alloc_at, World.cell?_alloc_past, World.cell?_alloc_lt, lt2, lt3, lt4]; done))
  have hx6 : w.heap.size + 1 < w6.heap.size := by omega
  have hx6' : w.heap.size + 1 + 1 < w6.heap.size := by omega
  have hy6_5 : w5.heap.size < w6.heap.size := by omega
  go_wp2
  refine bodyPost_ret (v := .tuple #[.agg #[.int .i64 u, .int .i64 t, .int .i64 shn, .int .i64 shd, .int .i64 stn, .int .i64 std], .bool true]) (by simp [results, Tryd.results36, go_sem, *, lt2, lt3, lt4, lt5, lt6]) rfl ⟨rfl, (by repeat (first | (with_reducible refine Below.drew ?_) | (with_reducible refine below_drewN ?_ _) | (with_reducible refine Below.alloc ?_ ?_ _) | (with_reducible refine Below.setCell ?_ ?_ _) | (with_reducible assumption) | (with_reducible exact Below.refl _ _) | omega | (simp <;> omega)))⟩
end Go.Proofs.YtpollgibgphipaaDoor.FacS
