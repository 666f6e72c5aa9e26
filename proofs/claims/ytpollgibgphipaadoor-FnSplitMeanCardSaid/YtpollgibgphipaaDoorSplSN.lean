/-
  Contract of the reference's SplitOf.
-/
import Derived.Test.YtpollgibgphipaaDoorFacS
import Derived.Test.YtpollgibgphipaaDoorSix6
import Derived.Test.YtpollgibgphipaaDoorCoupled
import Derived.Deep.DeepCutAuto
namespace Go.Proofs.YtpollgibgphipaaDoor.SplS
open Go.RowKit Go.Proofs.YtpollgibgphipaaDoor.RatP Go.Proofs.YtpollgibgphipaaDoor.ChoP Go.Proofs.YtpollgibgphipaaDoor.Rat Go.Proofs.YtpollgibgphipaaDoor.SplitPlain Go.Proofs.YtpollgibgphipaaDoor.SplitP Go.Proofs.YtpollgibgphipaaDoor.SplitDef Go.Proofs.YtpollgibgphipaaDoor.Fac Go.Proofs.YtpollgibgphipaaDoor.Cg Go.Proofs.YtpollgibgphipaaDoor.FacS Go.Proofs.YtpollgibgphipaaDoor.Spin Go.Proofs.YtpollgibgphipaaDoor.Row Go.Proofs.YtpollgibgphipaaDoor.Coupled Go.Proofs.YtpollgibgphipaaDoor.Later Go.Proofs.YtpollgibgphipaaDoor.Six6
set_option linter.unusedVariables false
set_option linter.unusedSimpArgs false

set_option maxRecDepth 100000 in
set_option maxHeartbeats 1000000 in
theorem sSpinProjections (j : Int) (hj : 0 ≤ j ∧ j ≤ 24) (w : World) :
    Calls Tryd.prog 34 #[.int .i64 j] w (GivesRow 3 1 (proj j).length ((proj j).map encI) w) := by
  obtain ⟨i0, hi, hz0, hz1, hz2⟩ := info_parts infoInt
  have HI := Lib.hid hi
  have HZ0 := Lib.hid hz0
  have HZ1 := Lib.hid hz1
  have HZ2 := Lib.hid hz2
  clear hi hz0 hz1 hz2
  have hS := fun W => sSpinValid j W
  rw [spinOk_true.2 hj] at hS
  have HS := Lib.hid hS
  have e : proj j = upFrom (-j) (j.toNat + 1) := rfl
  rw [e, upFrom_len]
  obtain ⟨J, rfl⟩ := Int.eq_ofNat_of_zero_le hj.1
  have hJ : J ≤ 24 := by omega
  simp only [Int.ofNat_eq_natCast, Int.toNat_natCast]
  clear hS hj e
  go_enter Tryd.func34, Tryd.ntmps34
  go_wp2_with fail
  (with_reducible refine (HS.out _).mono ?_)
  rintro e w' ⟨rfl, rfl⟩
  go_wp2
  go_loopw [3, 4] (fun v i wr => ∃ k : Nat, k ≤ J + 1 ∧ i = .int .i64 (-(J : Int) + 2 * (k : Int)) ∧ wr.ownsRow w.heap.size 3 1 v k ((upFrom (-(J : Int)) k).map encI) ∧ Below w.heap.size w wr) (fun _ i _ => ((J : Int) + 2 - intOf i).toNat)
  case atStart => exact ⟨0, by omega, by simp, World.ownsRow_lit w #[] 0 (Nat.le_refl _) (by decide) rfl, (by repeat (first | (with_reducible refine Below.drew ?_) | (with_reducible refine below_drewN ?_ _) | (with_reducible refine Below.alloc ?_ ?_ _) | (with_reducible refine Below.setCell ?_ ?_ _) | (with_reducible assumption) | (with_reducible exact Below.refl _ _) | omega | (simp <;> omega)))⟩
  case round =>
    obtain ⟨k, hk, rfl, hown, hB⟩ := hrel
    by_cases hlt : k < J + 1
    · go_wp2_with (at_builtin; refine wpList_append_own _ rfl _ _ 64 rfl w.heap.size 3 i0 (.int .i64 0) 1 8 Tryd.underlying64 HI.out HZ0.out HZ1.out HZ2.out rfl (by decide) _ _ _ rfl (hown.alloc _) ⟨wr.heap.size, 0, none⟩ 1 1 [.int .i64 (-(J : Int) + 2 * (k : Int))] rfl rfl (cell_one_new _ _ _) (by simp [Value.oneCell']) (by unfold maxLen; omega) (by omega) (by have := hB.size; simp; omega) ?_)
      intro v' w1 hown' hgrow _
      have b1 := own_step hB (Nat.le_refl _) hgrow (fun k hk => (hown.lt k hk).1)
      rw [← upFrom_cells] at hown'
      clear hgrow hown hB
      go_wp2
      go_roundw
      case rel => exact ⟨k + 1, by omega, by go_num, hown', b1⟩
      case measure => simp [intOf]; omega
    · obtain rfl : k = J + 1 := by omega
      go_wp2
      go_ret
      exact ⟨_, rfl, hown, hB⟩

/-- components and whether there are some are returned -/
def GivesSplits (ok : Bool) (l : List Sp) (w : World) (e : Ending) (w' : World) : Prop :=
  ∃ v, e = .returned (.tuple #[v, .bool ok]) ∧ w'.ownsRow w.heap.size 40 6 v l.length (l.flatMap encSp) ∧ Below w.heap.size w w'
theorem abs_near {u l : Int} : near u l = decide (absI (u - l) ≤ 2) := by
  unfold near absI
  apply decide_eq_decide.2
  split <;> omega
/-- the row of components so far, and what lay ahead of the loops -/
def Hold (w w4 wr : World) (v : Value) (l : List Sp) : Prop :=
  wr.ownsRow w.heap.size 40 6 v l.length (l.flatMap encSp) ∧ w4.grownBy wr (some (w.heap.size + 1 + 1)) ∧ (∀ g, v.ownBlock = some g → some g = some (w.heap.size + 1 + 1) ∨ w4.heap.size ≤ g)
/-- a row of integers, element by element -/
theorem ints_own {w : World} {base : Nat} {v : Value} {xs : List Int} (h : w.ownsRow base 3 1 v xs.length (xs.map encI)) (hn : 0 < xs.length) : ∃ g c, v = .slice (some ⟨g, 0, none⟩) xs.length c ∧ base ≤ g ∧ g < w.heap.size ∧ xs.length ≤ c ∧ c ≤ maxLen ∧ ∀ (i : Nat) (hi : i < xs.length), w.cell? ⟨g, i, none⟩ = some (.int .i64 xs[i]) := by
  rcases h.2 with ⟨rfl, h0⟩ | ⟨g, c, cur, rfl, hb, hg, hn, hm, _, _⟩
  · omega
  · refine ⟨g, c, rfl, hb, lt_of_block hg, hn, hm, fun i hi => ?_⟩
    rw [h.cellAt i (by omega), List.getElem?_map, List.getElem?_eq_getElem hi]
    rfl

theorem infoSplit' : (Tryd.prog.info? 40).map (fun i => (i.zero, i.size, i.bytes)) = some (some (.agg #[.int .i64 0, .int .i64 0, .int .i64 0, .int .i64 0, .int .i64 0, .int .i64 0]), 6, 48) := by kernel_rfl
set_option maxRecDepth 100000 in
set_option maxHeartbeats 8000000 in
theorem sSplitOf_no (s l j s' l' j' : Int) (w : World) (h : splitOk s l j s' l' j' = false) :
    Calls Tryd.prog 10 #[.agg #[.int .i64 s, .int .i64 l, .int .i64 j], .agg #[.int .i64 s', .int .i64 l', .int .i64 j']] w (GivesSplits false [] w) := by
  have HO := Lib.hid (own_emptySp ((w.alloc (.cells #[.int .i64 s, .int .i64 l, .int .i64 j] 26)).alloc (.cells #[.int .i64 s', .int .i64 l', .int .i64 j'] 26)) w.heap.size (by simp; omega))
  have hV1 := fun W => sLevelValid s l j W
  have hV2 := fun W => sLevelValid s' l' j' W
  have hT := fun W => sSpinTriangle j' 2 j W
  rcases split_cases s l j s' l' j' with ⟨h1, h0⟩ | ⟨h1, h2, h0⟩ | ⟨h1, h2, h3, h0⟩ | ⟨h1, h2, h3, h4, h0⟩ | ⟨h1, h2, h3, h4, h5, h0⟩ | ⟨h1, h2, h3, h4, h5, h0⟩
  · rw [h1] at hV1
    have HV1 := Lib.hid hV1
    clear hV1 hV2 hT h0 h h1
    go_enter Tryd.func10, Tryd.ntmps10
    go_wp2_with fail
    (with_reducible refine (HV1.out _).mono ?_)
    rintro e w1 ⟨rfl, b1⟩
    have O1 := own_below HO.out b1 (Nat.le_refl _)
    have hz1 := b1.size
    obtain ⟨hc1, hf1⟩ := bcell b1
    have B1 : Below w.heap.size w w1 := Below.trans (by repeat (first | (with_reducible refine Below.drew ?_) | (with_reducible refine below_drewN ?_ _) | (with_reducible refine Below.alloc ?_ ?_ _) | (with_reducible refine Below.setCell ?_ ?_ _) | (with_reducible assumption) | (with_reducible exact Below.refl _ _) | omega | (simp <;> omega))) (b1.mono (by first | omega | (simp <;> omega)))
    (try simp at hz1)
    have hy1 : w.heap.size < w1.heap.size := by omega
    have hx1 : w.heap.size + 1 < w1.heap.size := by omega
    have hx1' : w.heap.size + 1 + 1 < w1.heap.size := by omega
    clear b1
    have kc1_0_0 : w1.cell? ⟨w.heap.size, 0, none⟩ = some (.int .i64 s) := (hc1 (w.heap.size) 0 (by first | omega | (simp <;> omega))).trans (by first | (simp; done) | (simp [*]; done) | (simp [*, World.cell?_alloc_at, World.cell?_alloc_past, World.cell?_alloc_lt, lt2, lt3, lt4]; done))
    have kc1_1_0 : w1.cell? ⟨w.heap.size, 1, none⟩ = some (.int .i64 l) := (hc1 (w.heap.size) 1 (by first | omega | (simp <;> omega))).trans (by first | (simp; done) | (simp [*]; done) | (simp [*, World.cell?_alloc_at, World.cell?_alloc_past, World.cell?_alloc_lt, lt2, lt3, lt4]; done))
    have kc1_2_0 : w1.cell? ⟨w.heap.size, 2, none⟩ = some (.int .i64 j) := (hc1 (w.heap.size) 2 (by first | omega | (simp <;> omega))).trans (by first | (simp; done) | (simp [*]; done) | (simp [*, World.cell?_alloc_at, World.cell?_alloc_past, World.cell?_alloc_lt, lt2, lt3, lt4]; done))
    have kc1_0_1 : w1.cell? ⟨w.heap.size + 1, 0, none⟩ = some (.int .i64 s') := (hc1 (w.heap.size + 1) 0 (by first | omega | (simp <;> omega))).trans (by first | (simp; done) | (simp [*]; done) | (simp [*, World.cell?_alloc_at, World.cell?_alloc_past, World.cell?_alloc_lt, lt2, lt3, lt4]; done))
    have kc1_1_1 : w1.cell? ⟨w.heap.size + 1, 1, none⟩ = some (.int .i64 l') := (hc1 (w.heap.size + 1) 1 (by first | omega | (simp <;> omega))).trans (by first | (simp; done) | (simp [*]; done) | (simp [*, World.cell?_alloc_at, World.cell?_alloc_past, World.cell?_alloc_lt, lt2, lt3, lt4]; done))
    have kc1_2_1 : w1.cell? ⟨w.heap.size + 1, 2, none⟩ = some (.int .i64 j') := (hc1 (w.heap.size + 1) 2 (by first | omega | (simp <;> omega))).trans (by first | (simp; done) | (simp [*]; done) | (simp [*, World.cell?_alloc_at, World.cell?_alloc_past, World.cell?_alloc_lt, lt2, lt3, lt4]; done))
    go_wp2
    refine bodyPost_ret (v := .tuple #[.slice (some ⟨w.heap.size + 1 + 1, 0, none⟩) 0 0, .bool false]) (by simp [results, Tryd.results10, go_sem]) rfl ⟨_, rfl, by simpa using O1, B1⟩
  · rw [h1] at hV1
    rw [h2] at hV2
    have HV1 := Lib.hid hV1
    have HV2 := Lib.hid hV2
    clear hV1 hV2 hT h0 h h1 h2
    go_enter Tryd.func10, Tryd.ntmps10
    go_wp2_with fail
    (with_reducible refine (HV1.out _).mono ?_)
    rintro e w1 ⟨rfl, b1⟩
    have O1 := own_below HO.out b1 (Nat.le_refl _)
    have hz1 := b1.size
    obtain ⟨hc1, hf1⟩ := bcell b1
    have B1 : Below w.heap.size w w1 := Below.trans (by repeat (first | (with_reducible refine Below.drew ?_) | (with_reducible refine below_drewN ?_ _) | (with_reducible refine Below.alloc ?_ ?_ _) | (with_reducible refine Below.setCell ?_ ?_ _) | (with_reducible assumption) | (with_reducible exact Below.refl _ _) | omega | (simp <;> omega))) (b1.mono (by first | omega | (simp <;> omega)))
    (try simp at hz1)
    have hy1 : w.heap.size < w1.heap.size := by omega
    have hx1 : w.heap.size + 1 < w1.heap.size := by omega
    have hx1' : w.heap.size + 1 + 1 < w1.heap.size := by omega
    clear b1
    have kc1_0_0 : w1.cell? ⟨w.heap.size, 0, none⟩ = some (.int .i64 s) := (hc1 (w.heap.size) 0 (by first | omega | (simp <;> omega))).trans (by first | (simp; done) | (simp [*]; done) | (simp [*, World.cell?_alloc_at, World.cell?_alloc_past, World.cell?_alloc_lt, lt2, lt3, lt4]; done))
    have kc1_1_0 : w1.cell? ⟨w.heap.size, 1, none⟩ = some (.int .i64 l) := (hc1 (w.heap.size) 1 (by first | omega | (simp <;> omega))).trans (by first | (simp; done) | (simp [*]; done) | (simp [*, World.cell?_alloc_at, World.cell?_alloc_past, World.cell?_alloc_lt, lt2, lt3, lt4]; done))
    have kc1_2_0 : w1.cell? ⟨w.heap.size, 2, none⟩ = some (.int .i64 j) := (hc1 (w.heap.size) 2 (by first | omega | (simp <;> omega))).trans (by first | (simp; done) | (simp [*]; done) | (simp [*, World.cell?_alloc_at, World.cell?_alloc_past, World.cell?_alloc_lt, lt2, lt3, lt4]; done))
    have kc1_0_1 : w1.cell? ⟨w.heap.size + 1, 0, none⟩ = some (.int .i64 s') := (hc1 (w.heap.size + 1) 0 (by first | omega | (simp <;> omega))).trans (by first | (simp; done) | (simp [*]; done) | (simp [*, World.cell?_alloc_at, World.cell?_alloc_past, World.cell?_alloc_lt, lt2, lt3, lt4]; done))
    have kc1_1_1 : w1.cell? ⟨w.heap.size + 1, 1, none⟩ = some (.int .i64 l') := (hc1 (w.heap.size + 1) 1 (by first | omega | (simp <;> omega))).trans (by first | (simp; done) | (simp [*]; done) | (simp [*, World.cell?_alloc_at, World.cell?_alloc_past, World.cell?_alloc_lt, lt2, lt3, lt4]; done))
    have kc1_2_1 : w1.cell? ⟨w.heap.size + 1, 2, none⟩ = some (.int .i64 j') := (hc1 (w.heap.size + 1) 2 (by first | omega | (simp <;> omega))).trans (by first | (simp; done) | (simp [*]; done) | (simp [*, World.cell?_alloc_at, World.cell?_alloc_past, World.cell?_alloc_lt, lt2, lt3, lt4]; done))
    go_wp2_with fail
    (with_reducible refine (HV2.out _).mono ?_)
    rintro e w2 ⟨rfl, b2⟩
    have O2 := own_below O1 b2 (Nat.le_refl _)
    have hz2 := b2.size
    obtain ⟨hc2, hf2⟩ := bcell b2
    have B2 : Below w.heap.size w w2 := Below.trans (by repeat (first | (with_reducible refine Below.drew ?_) | (with_reducible refine below_drewN ?_ _) | (with_reducible refine Below.alloc ?_ ?_ _) | (with_reducible refine Below.setCell ?_ ?_ _) | (with_reducible assumption) | (with_reducible exact Below.refl _ _) | omega | (simp <;> omega))) (b2.mono (by first | omega | (simp <;> omega)))
    (try simp at hz2)
    have hy2 : w.heap.size < w2.heap.size := by omega
    have hx2 : w.heap.size + 1 < w2.heap.size := by omega
    have hx2' : w.heap.size + 1 + 1 < w2.heap.size := by omega
    clear b2
    have kc2_0_0 : w2.cell? ⟨w.heap.size, 0, none⟩ = some (.int .i64 s) := (hc2 (w.heap.size) 0 (by first | omega | (simp <;> omega))).trans (by first | (simp; done) | (simp [*]; done) | (simp [*, World.cell?_alloc_at, World.cell?_alloc_past, World.cell?_alloc_lt, lt2, lt3, lt4]; done))
    have kc2_1_0 : w2.cell? ⟨w.heap.size, 1, none⟩ = some (.int .i64 l) := (hc2 (w.heap.size) 1 (by first | omega | (simp <;> omega))).trans (by first | (simp; done) | (simp [*]; done) | (simp [*, World.cell?_alloc_at, World.cell?_alloc_past, World.cell?_alloc_lt, lt2, lt3, lt4]; done))
    have kc2_2_0 : w2.cell? ⟨w.heap.size, 2, none⟩ = some (.int .i64 j) := (hc2 (w.heap.size) 2 (by first | omega | (simp <;> omega))).trans (by first | (simp; done) | (simp [*]; done) | (simp [*, World.cell?_alloc_at, World.cell?_alloc_past, World.cell?_alloc_lt, lt2, lt3, lt4]; done))
    have kc2_0_1 : w2.cell? ⟨w.heap.size + 1, 0, none⟩ = some (.int .i64 s') := (hc2 (w.heap.size + 1) 0 (by first | omega | (simp <;> omega))).trans (by first | (simp; done) | (simp [*]; done) | (simp [*, World.cell?_alloc_at, World.cell?_alloc_past, World.cell?_alloc_lt, lt2, lt3, lt4]; done))
    have kc2_1_1 : w2.cell? ⟨w.heap.size + 1, 1, none⟩ = some (.int .i64 l') := (hc2 (w.heap.size + 1) 1 (by first | omega | (simp <;> omega))).trans (by first | (simp; done) | (simp [*]; done) | (simp [*, World.cell?_alloc_at, World.cell?_alloc_past, World.cell?_alloc_lt, lt2, lt3, lt4]; done))
    have kc2_2_1 : w2.cell? ⟨w.heap.size + 1, 2, none⟩ = some (.int .i64 j') := (hc2 (w.heap.size + 1) 2 (by first | omega | (simp <;> omega))).trans (by first | (simp; done) | (simp [*]; done) | (simp [*, World.cell?_alloc_at, World.cell?_alloc_past, World.cell?_alloc_lt, lt2, lt3, lt4]; done))
    go_wp2
    refine bodyPost_ret (v := .tuple #[.slice (some ⟨w.heap.size + 1 + 1, 0, none⟩) 0 0, .bool false]) (by simp [results, Tryd.results10, go_sem]) rfl ⟨_, rfl, by simpa using O2, B2⟩
  · rw [h1] at hV1
    rw [h2] at hV2
    have HV1 := Lib.hid hV1
    have HV2 := Lib.hid hV2
    clear hV1 hV2 hT h0 h h1 h2
    go_enter Tryd.func10, Tryd.ntmps10
    go_wp2_with fail
    (with_reducible refine (HV1.out _).mono ?_)
    rintro e w1 ⟨rfl, b1⟩
    have O1 := own_below HO.out b1 (Nat.le_refl _)
    have hz1 := b1.size
    obtain ⟨hc1, hf1⟩ := bcell b1
    have B1 : Below w.heap.size w w1 := Below.trans (by repeat (first | (with_reducible refine Below.drew ?_) | (with_reducible refine below_drewN ?_ _) | (with_reducible refine Below.alloc ?_ ?_ _) | (with_reducible refine Below.setCell ?_ ?_ _) | (with_reducible assumption) | (with_reducible exact Below.refl _ _) | omega | (simp <;> omega))) (b1.mono (by first | omega | (simp <;> omega)))
    (try simp at hz1)
    have hy1 : w.heap.size < w1.heap.size := by omega
    have hx1 : w.heap.size + 1 < w1.heap.size := by omega
    have hx1' : w.heap.size + 1 + 1 < w1.heap.size := by omega
    clear b1
    have kc1_0_0 : w1.cell? ⟨w.heap.size, 0, none⟩ = some (.int .i64 s) := (hc1 (w.heap.size) 0 (by first | omega | (simp <;> omega))).trans (by first | (simp; done) | (simp [*]; done) | (simp [*, World.cell?_alloc_at, World.cell?_alloc_past, World.cell?_alloc_lt, lt2, lt3, lt4]; done))
    have kc1_1_0 : w1.cell? ⟨w.heap.size, 1, none⟩ = some (.int .i64 l) := (hc1 (w.heap.size) 1 (by first | omega | (simp <;> omega))).trans (by first | (simp; done) | (simp [*]; done) | (simp [*, World.cell?_alloc_at, World.cell?_alloc_past, World.cell?_alloc_lt, lt2, lt3, lt4]; done))
    have kc1_2_0 : w1.cell? ⟨w.heap.size, 2, none⟩ = some (.int .i64 j) := (hc1 (w.heap.size) 2 (by first | omega | (simp <;> omega))).trans (by first | (simp; done) | (simp [*]; done) | (simp [*, World.cell?_alloc_at, World.cell?_alloc_past, World.cell?_alloc_lt, lt2, lt3, lt4]; done))
    have kc1_0_1 : w1.cell? ⟨w.heap.size + 1, 0, none⟩ = some (.int .i64 s') := (hc1 (w.heap.size + 1) 0 (by first | omega | (simp <;> omega))).trans (by first | (simp; done) | (simp [*]; done) | (simp [*, World.cell?_alloc_at, World.cell?_alloc_past, World.cell?_alloc_lt, lt2, lt3, lt4]; done))
    have kc1_1_1 : w1.cell? ⟨w.heap.size + 1, 1, none⟩ = some (.int .i64 l') := (hc1 (w.heap.size + 1) 1 (by first | omega | (simp <;> omega))).trans (by first | (simp; done) | (simp [*]; done) | (simp [*, World.cell?_alloc_at, World.cell?_alloc_past, World.cell?_alloc_lt, lt2, lt3, lt4]; done))
    have kc1_2_1 : w1.cell? ⟨w.heap.size + 1, 2, none⟩ = some (.int .i64 j') := (hc1 (w.heap.size + 1) 2 (by first | omega | (simp <;> omega))).trans (by first | (simp; done) | (simp [*]; done) | (simp [*, World.cell?_alloc_at, World.cell?_alloc_past, World.cell?_alloc_lt, lt2, lt3, lt4]; done))
    go_wp2_with fail
    (with_reducible refine (HV2.out _).mono ?_)
    rintro e w2 ⟨rfl, b2⟩
    have O2 := own_below O1 b2 (Nat.le_refl _)
    have hz2 := b2.size
    obtain ⟨hc2, hf2⟩ := bcell b2
    have B2 : Below w.heap.size w w2 := Below.trans (by repeat (first | (with_reducible refine Below.drew ?_) | (with_reducible refine below_drewN ?_ _) | (with_reducible refine Below.alloc ?_ ?_ _) | (with_reducible refine Below.setCell ?_ ?_ _) | (with_reducible assumption) | (with_reducible exact Below.refl _ _) | omega | (simp <;> omega))) (b2.mono (by first | omega | (simp <;> omega)))
    (try simp at hz2)
    have hy2 : w.heap.size < w2.heap.size := by omega
    have hx2 : w.heap.size + 1 < w2.heap.size := by omega
    have hx2' : w.heap.size + 1 + 1 < w2.heap.size := by omega
    clear b2
    have kc2_0_0 : w2.cell? ⟨w.heap.size, 0, none⟩ = some (.int .i64 s) := (hc2 (w.heap.size) 0 (by first | omega | (simp <;> omega))).trans (by first | (simp; done) | (simp [*]; done) | (simp [*, World.cell?_alloc_at, World.cell?_alloc_past, World.cell?_alloc_lt, lt2, lt3, lt4]; done))
    have kc2_1_0 : w2.cell? ⟨w.heap.size, 1, none⟩ = some (.int .i64 l) := (hc2 (w.heap.size) 1 (by first | omega | (simp <;> omega))).trans (by first | (simp; done) | (simp [*]; done) | (simp [*, World.cell?_alloc_at, World.cell?_alloc_past, World.cell?_alloc_lt, lt2, lt3, lt4]; done))
    have kc2_2_0 : w2.cell? ⟨w.heap.size, 2, none⟩ = some (.int .i64 j) := (hc2 (w.heap.size) 2 (by first | omega | (simp <;> omega))).trans (by first | (simp; done) | (simp [*]; done) | (simp [*, World.cell?_alloc_at, World.cell?_alloc_past, World.cell?_alloc_lt, lt2, lt3, lt4]; done))
    have kc2_0_1 : w2.cell? ⟨w.heap.size + 1, 0, none⟩ = some (.int .i64 s') := (hc2 (w.heap.size + 1) 0 (by first | omega | (simp <;> omega))).trans (by first | (simp; done) | (simp [*]; done) | (simp [*, World.cell?_alloc_at, World.cell?_alloc_past, World.cell?_alloc_lt, lt2, lt3, lt4]; done))
    have kc2_1_1 : w2.cell? ⟨w.heap.size + 1, 1, none⟩ = some (.int .i64 l') := (hc2 (w.heap.size + 1) 1 (by first | omega | (simp <;> omega))).trans (by first | (simp; done) | (simp [*]; done) | (simp [*, World.cell?_alloc_at, World.cell?_alloc_past, World.cell?_alloc_lt, lt2, lt3, lt4]; done))
    have kc2_2_1 : w2.cell? ⟨w.heap.size + 1, 2, none⟩ = some (.int .i64 j') := (hc2 (w.heap.size + 1) 2 (by first | omega | (simp <;> omega))).trans (by first | (simp; done) | (simp [*]; done) | (simp [*, World.cell?_alloc_at, World.cell?_alloc_past, World.cell?_alloc_lt, lt2, lt3, lt4]; done))
    go_wp2
    refine bodyPost_ret (v := .tuple #[.slice (some ⟨w.heap.size + 1 + 1, 0, none⟩) 0 0, .bool false]) (by simp [results, Tryd.results10, go_sem]) rfl ⟨_, rfl, by simpa using O2, B2⟩
  · rw [h1] at hV1
    rw [h2] at hV2
    have HV1 := Lib.hid hV1
    have HV2 := Lib.hid hV2
    clear hV1 hV2 hT h0 h h1 h2
    go_enter Tryd.func10, Tryd.ntmps10
    go_wp2_with fail
    (with_reducible refine (HV1.out _).mono ?_)
    rintro e w1 ⟨rfl, b1⟩
    have O1 := own_below HO.out b1 (Nat.le_refl _)
    have hz1 := b1.size
    obtain ⟨hc1, hf1⟩ := bcell b1
    have B1 : Below w.heap.size w w1 := Below.trans (by repeat (first | (with_reducible refine Below.drew ?_) | (with_reducible refine below_drewN ?_ _) | (with_reducible refine Below.alloc ?_ ?_ _) | (with_reducible refine Below.setCell ?_ ?_ _) | (with_reducible assumption) | (with_reducible exact Below.refl _ _) | omega | (simp <;> omega))) (b1.mono (by first | omega | (simp <;> omega)))
    (try simp at hz1)
    have hy1 : w.heap.size < w1.heap.size := by omega
    have hx1 : w.heap.size + 1 < w1.heap.size := by omega
    have hx1' : w.heap.size + 1 + 1 < w1.heap.size := by omega
    clear b1
    have kc1_0_0 : w1.cell? ⟨w.heap.size, 0, none⟩ = some (.int .i64 s) := (hc1 (w.heap.size) 0 (by first | omega | (simp <;> omega))).trans (by first | (simp; done) | (simp [*]; done) | (simp [*, World.cell?_alloc_at, World.cell?_alloc_past, World.cell?_alloc_lt, lt2, lt3, lt4]; done))
    have kc1_1_0 : w1.cell? ⟨w.heap.size, 1, none⟩ = some (.int .i64 l) := (hc1 (w.heap.size) 1 (by first | omega | (simp <;> omega))).trans (by first | (simp; done) | (simp [*]; done) | (simp [*, World.cell?_alloc_at, World.cell?_alloc_past, World.cell?_alloc_lt, lt2, lt3, lt4]; done))
    have kc1_2_0 : w1.cell? ⟨w.heap.size, 2, none⟩ = some (.int .i64 j) := (hc1 (w.heap.size) 2 (by first | omega | (simp <;> omega))).trans (by first | (simp; done) | (simp [*]; done) | (simp [*, World.cell?_alloc_at, World.cell?_alloc_past, World.cell?_alloc_lt, lt2, lt3, lt4]; done))
    have kc1_0_1 : w1.cell? ⟨w.heap.size + 1, 0, none⟩ = some (.int .i64 s') := (hc1 (w.heap.size + 1) 0 (by first | omega | (simp <;> omega))).trans (by first | (simp; done) | (simp [*]; done) | (simp [*, World.cell?_alloc_at, World.cell?_alloc_past, World.cell?_alloc_lt, lt2, lt3, lt4]; done))
    have kc1_1_1 : w1.cell? ⟨w.heap.size + 1, 1, none⟩ = some (.int .i64 l') := (hc1 (w.heap.size + 1) 1 (by first | omega | (simp <;> omega))).trans (by first | (simp; done) | (simp [*]; done) | (simp [*, World.cell?_alloc_at, World.cell?_alloc_past, World.cell?_alloc_lt, lt2, lt3, lt4]; done))
    have kc1_2_1 : w1.cell? ⟨w.heap.size + 1, 2, none⟩ = some (.int .i64 j') := (hc1 (w.heap.size + 1) 2 (by first | omega | (simp <;> omega))).trans (by first | (simp; done) | (simp [*]; done) | (simp [*, World.cell?_alloc_at, World.cell?_alloc_past, World.cell?_alloc_lt, lt2, lt3, lt4]; done))
    go_wp2_with fail
    (with_reducible refine (HV2.out _).mono ?_)
    rintro e w2 ⟨rfl, b2⟩
    have O2 := own_below O1 b2 (Nat.le_refl _)
    have hz2 := b2.size
    obtain ⟨hc2, hf2⟩ := bcell b2
    have B2 : Below w.heap.size w w2 := Below.trans (by repeat (first | (with_reducible refine Below.drew ?_) | (with_reducible refine below_drewN ?_ _) | (with_reducible refine Below.alloc ?_ ?_ _) | (with_reducible refine Below.setCell ?_ ?_ _) | (with_reducible assumption) | (with_reducible exact Below.refl _ _) | omega | (simp <;> omega))) (b2.mono (by first | omega | (simp <;> omega)))
    (try simp at hz2)
    have hy2 : w.heap.size < w2.heap.size := by omega
    have hx2 : w.heap.size + 1 < w2.heap.size := by omega
    have hx2' : w.heap.size + 1 + 1 < w2.heap.size := by omega
    clear b2
    have kc2_0_0 : w2.cell? ⟨w.heap.size, 0, none⟩ = some (.int .i64 s) := (hc2 (w.heap.size) 0 (by first | omega | (simp <;> omega))).trans (by first | (simp; done) | (simp [*]; done) | (simp [*, World.cell?_alloc_at, World.cell?_alloc_past, World.cell?_alloc_lt, lt2, lt3, lt4]; done))
    have kc2_1_0 : w2.cell? ⟨w.heap.size, 1, none⟩ = some (.int .i64 l) := (hc2 (w.heap.size) 1 (by first | omega | (simp <;> omega))).trans (by first | (simp; done) | (simp [*]; done) | (simp [*, World.cell?_alloc_at, World.cell?_alloc_past, World.cell?_alloc_lt, lt2, lt3, lt4]; done))
    have kc2_2_0 : w2.cell? ⟨w.heap.size, 2, none⟩ = some (.int .i64 j) := (hc2 (w.heap.size) 2 (by first | omega | (simp <;> omega))).trans (by first | (simp; done) | (simp [*]; done) | (simp [*, World.cell?_alloc_at, World.cell?_alloc_past, World.cell?_alloc_lt, lt2, lt3, lt4]; done))
    have kc2_0_1 : w2.cell? ⟨w.heap.size + 1, 0, none⟩ = some (.int .i64 s') := (hc2 (w.heap.size + 1) 0 (by first | omega | (simp <;> omega))).trans (by first | (simp; done) | (simp [*]; done) | (simp [*, World.cell?_alloc_at, World.cell?_alloc_past, World.cell?_alloc_lt, lt2, lt3, lt4]; done))
    have kc2_1_1 : w2.cell? ⟨w.heap.size + 1, 1, none⟩ = some (.int .i64 l') := (hc2 (w.heap.size + 1) 1 (by first | omega | (simp <;> omega))).trans (by first | (simp; done) | (simp [*]; done) | (simp [*, World.cell?_alloc_at, World.cell?_alloc_past, World.cell?_alloc_lt, lt2, lt3, lt4]; done))
    have kc2_2_1 : w2.cell? ⟨w.heap.size + 1, 2, none⟩ = some (.int .i64 j') := (hc2 (w.heap.size + 1) 2 (by first | omega | (simp <;> omega))).trans (by first | (simp; done) | (simp [*]; done) | (simp [*, World.cell?_alloc_at, World.cell?_alloc_past, World.cell?_alloc_lt, lt2, lt3, lt4]; done))
    go_wp2
    refine bodyPost_ret (v := .tuple #[.slice (some ⟨w.heap.size + 1 + 1, 0, none⟩) 0 0, .bool false]) (by simp [results, Tryd.results10, go_sem]) rfl ⟨_, rfl, by simpa using O2, B2⟩
  · rw [h1] at hV1
    rw [h2] at hV2
    rw [h5] at hT
    have HV1 := Lib.hid hV1
    have HV2 := Lib.hid hV2
    have HT := Lib.hid hT
    clear hV1 hV2 hT h0 h h1 h2 h5
    go_enter Tryd.func10, Tryd.ntmps10
    go_wp2_with fail
    (with_reducible refine (HV1.out _).mono ?_)
    rintro e w1 ⟨rfl, b1⟩
    have O1 := own_below HO.out b1 (Nat.le_refl _)
    have hz1 := b1.size
    obtain ⟨hc1, hf1⟩ := bcell b1
    have B1 : Below w.heap.size w w1 := Below.trans (by repeat (first | (with_reducible refine Below.drew ?_) | (with_reducible refine below_drewN ?_ _) | (with_reducible refine Below.alloc ?_ ?_ _) | (with_reducible refine Below.setCell ?_ ?_ _) | (with_reducible assumption) | (with_reducible exact Below.refl _ _) | omega | (simp <;> omega))) (b1.mono (by first | omega | (simp <;> omega)))
    (try simp at hz1)
    have hy1 : w.heap.size < w1.heap.size := by omega
    have hx1 : w.heap.size + 1 < w1.heap.size := by omega
    have hx1' : w.heap.size + 1 + 1 < w1.heap.size := by omega
    clear b1
    have kc1_0_0 : w1.cell? ⟨w.heap.size, 0, none⟩ = some (.int .i64 s) := (hc1 (w.heap.size) 0 (by first | omega | (simp <;> omega))).trans (by first | (simp; done) | (simp [*]; done) | (simp [*, World.cell?_alloc_at, World.cell?_alloc_past, World.cell?_alloc_lt, lt2, lt3, lt4]; done))
    have kc1_1_0 : w1.cell? ⟨w.heap.size, 1, none⟩ = some (.int .i64 l) := (hc1 (w.heap.size) 1 (by first | omega | (simp <;> omega))).trans (by first | (simp; done) | (simp [*]; done) | (simp [*, World.cell?_alloc_at, World.cell?_alloc_past, World.cell?_alloc_lt, lt2, lt3, lt4]; done))
    have kc1_2_0 : w1.cell? ⟨w.heap.size, 2, none⟩ = some (.int .i64 j) := (hc1 (w.heap.size) 2 (by first | omega | (simp <;> omega))).trans (by first | (simp; done) | (simp [*]; done) | (simp [*, World.cell?_alloc_at, World.cell?_alloc_past, World.cell?_alloc_lt, lt2, lt3, lt4]; done))
    have kc1_0_1 : w1.cell? ⟨w.heap.size + 1, 0, none⟩ = some (.int .i64 s') := (hc1 (w.heap.size + 1) 0 (by first | omega | (simp <;> omega))).trans (by first | (simp; done) | (simp [*]; done) | (simp [*, World.cell?_alloc_at, World.cell?_alloc_past, World.cell?_alloc_lt, lt2, lt3, lt4]; done))
    have kc1_1_1 : w1.cell? ⟨w.heap.size + 1, 1, none⟩ = some (.int .i64 l') := (hc1 (w.heap.size + 1) 1 (by first | omega | (simp <;> omega))).trans (by first | (simp; done) | (simp [*]; done) | (simp [*, World.cell?_alloc_at, World.cell?_alloc_past, World.cell?_alloc_lt, lt2, lt3, lt4]; done))
    have kc1_2_1 : w1.cell? ⟨w.heap.size + 1, 2, none⟩ = some (.int .i64 j') := (hc1 (w.heap.size + 1) 2 (by first | omega | (simp <;> omega))).trans (by first | (simp; done) | (simp [*]; done) | (simp [*, World.cell?_alloc_at, World.cell?_alloc_past, World.cell?_alloc_lt, lt2, lt3, lt4]; done))
    go_wp2_with fail
    (with_reducible refine (HV2.out _).mono ?_)
    rintro e w2 ⟨rfl, b2⟩
    have O2 := own_below O1 b2 (Nat.le_refl _)
    have hz2 := b2.size
    obtain ⟨hc2, hf2⟩ := bcell b2
    have B2 : Below w.heap.size w w2 := Below.trans (by repeat (first | (with_reducible refine Below.drew ?_) | (with_reducible refine below_drewN ?_ _) | (with_reducible refine Below.alloc ?_ ?_ _) | (with_reducible refine Below.setCell ?_ ?_ _) | (with_reducible assumption) | (with_reducible exact Below.refl _ _) | omega | (simp <;> omega))) (b2.mono (by first | omega | (simp <;> omega)))
    (try simp at hz2)
    have hy2 : w.heap.size < w2.heap.size := by omega
    have hx2 : w.heap.size + 1 < w2.heap.size := by omega
    have hx2' : w.heap.size + 1 + 1 < w2.heap.size := by omega
    clear b2
    have kc2_0_0 : w2.cell? ⟨w.heap.size, 0, none⟩ = some (.int .i64 s) := (hc2 (w.heap.size) 0 (by first | omega | (simp <;> omega))).trans (by first | (simp; done) | (simp [*]; done) | (simp [*, World.cell?_alloc_at, World.cell?_alloc_past, World.cell?_alloc_lt, lt2, lt3, lt4]; done))
    have kc2_1_0 : w2.cell? ⟨w.heap.size, 1, none⟩ = some (.int .i64 l) := (hc2 (w.heap.size) 1 (by first | omega | (simp <;> omega))).trans (by first | (simp; done) | (simp [*]; done) | (simp [*, World.cell?_alloc_at, World.cell?_alloc_past, World.cell?_alloc_lt, lt2, lt3, lt4]; done))
    have kc2_2_0 : w2.cell? ⟨w.heap.size, 2, none⟩ = some (.int .i64 j) := (hc2 (w.heap.size) 2 (by first | omega | (simp <;> omega))).trans (by first | (simp; done) | (simp [*]; done) | (simp [*, World.cell?_alloc_at, World.cell?_alloc_past, World.cell?_alloc_lt, lt2, lt3, lt4]; done))
    have kc2_0_1 : w2.cell? ⟨w.heap.size + 1, 0, none⟩ = some (.int .i64 s') := (hc2 (w.heap.size + 1) 0 (by first | omega | (simp <;> omega))).trans (by first | (simp; done) | (simp [*]; done) | (simp [*, World.cell?_alloc_at, World.cell?_alloc_past, World.cell?_alloc_lt, lt2, lt3, lt4]; done))
    have kc2_1_1 : w2.cell? ⟨w.heap.size + 1, 1, none⟩ = some (.int .i64 l') := (hc2 (w.heap.size + 1) 1 (by first | omega | (simp <;> omega))).trans (by first | (simp; done) | (simp [*]; done) | (simp [*, World.cell?_alloc_at, World.cell?_alloc_past, World.cell?_alloc_lt, lt2, lt3, lt4]; done))
    have kc2_2_1 : w2.cell? ⟨w.heap.size + 1, 2, none⟩ = some (.int .i64 j') := (hc2 (w.heap.size + 1) 2 (by first | omega | (simp <;> omega))).trans (by first | (simp; done) | (simp [*]; done) | (simp [*, World.cell?_alloc_at, World.cell?_alloc_past, World.cell?_alloc_lt, lt2, lt3, lt4]; done))
    go_wp2_with fail
    (with_reducible refine (HT.out _).mono ?_)
    rintro e w' ⟨rfl, rfl⟩
    go_wp2
    refine bodyPost_ret (v := .tuple #[.slice (some ⟨w.heap.size + 1 + 1, 0, none⟩) 0 0, .bool false]) (by simp [results, Tryd.results10, go_sem]) rfl ⟨_, rfl, by simpa using O2, B2⟩
  · rw [h] at h0; cases h0

end Go.Proofs.YtpollgibgphipaaDoor.SplS
