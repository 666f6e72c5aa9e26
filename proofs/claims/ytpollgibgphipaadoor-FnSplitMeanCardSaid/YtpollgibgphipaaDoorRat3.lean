/-
  Rationals: the contract of the program's difference.
-/
import Derived.Test.YtpollgibgphipaaDoorRat2
namespace Go.Proofs.YtpollgibgphipaaDoor.Rat
open Go.RowKit Go.Proofs.YtpollgibgphipaaDoor.RatP Go.Proofs.YtpollgibgphipaaDoor.Spin Go.Proofs.YtpollgibgphipaaDoor.Row Go.Proofs.YtpollgibgphipaaDoor.Later
set_option linter.unusedVariables false
set_option linter.unusedSimpArgs false

set_option maxRecDepth 100000 in
set_option maxHeartbeats 1000000 in
theorem iRatSub (a b c d : Int) (w : World) (g1 : -9223372036854775807 ≤ c) (g2 : c ≤ 9223372036854775807) : Calls Tryd.prog 17 #[.agg #[.int .i64 a, .int .i64 b], .agg #[.int .i64 c, .int .i64 d]] w (Gives (roV (subR a b c d)) w) := by
  have HN := Lib.hid (fun W => negative c d W g1 g2)
  have HA := Lib.hid (fun W => iRatAdd a b (-c) d W)
  rw [sub_add] at HA

  unfold roV at HA ⊢
  generalize subR a b c d = r at *
  obtain ⟨rn, rd, rok⟩ := r
  go_enter Tryd.func17, Tryd.ntmps17
  go_wp2_with fail
  have T0 : ((w.alloc (.cells #[.int .i64 a, .int .i64 b] 34)).alloc (.cells #[.int .i64 c, .int .i64 d] 34)).cell? ⟨w.heap.size, 0, none⟩ = some (.int .i64 a) := by simp
  go_region_held3 (fun w' => w'.cell? ⟨w.heap.size, 0, none⟩ = some (.int .i64 a) ∧ w'.cell? ⟨w.heap.size, 1, none⟩ = some (.int .i64 b) ∧ w'.cell? ⟨w.heap.size + 1, 0, none⟩ = some (.int .i64 c) ∧ w'.cell? ⟨w.heap.size + 1, 1, none⟩ = some (.int .i64 d)) (first | exact ⟨t0, t1, t2, t3⟩ | (refine ⟨?_, ?_, ?_, ?_⟩ <;> first | (rw [World.cell?_setCell_far _ _ _ _ (by first | (simp; done) | (simp; omega)), World.cell?_setCell_far _ _ _ _ (by first | (simp; done) | (simp; omega))]; assumption) | (rw [World.cell?_setCell_far _ _ _ _ (by first | (simp; done) | (simp; omega))]; assumption)) | go_keep)
    (first | ((with_reducible refine (HN.out _).mono ?_); rintro e w1 ⟨rfl, b1⟩; have hz1 := b1.size; obtain ⟨hc1, hf1⟩ := bcell b1; have t0 : w1.cell? ⟨w.heap.size, 0, none⟩ = some (.int .i64 a) := (hc1 _ _ (by simp <;> omega)).trans (by simp [World.cell?_alloc_at, World.cell?_alloc_past, lt2, lt3]); have t1 : w1.cell? ⟨w.heap.size, 1, none⟩ = some (.int .i64 b) := (hc1 _ _ (by simp <;> omega)).trans (by simp [World.cell?_alloc_at, World.cell?_alloc_past, lt2, lt3]); have t2 : w1.cell? ⟨w.heap.size + 1, 0, none⟩ = some (.int .i64 c) := (hc1 _ _ (by simp <;> omega)).trans (by simp [World.cell?_alloc_at, World.cell?_alloc_past, lt2, lt3]); have t3 : w1.cell? ⟨w.heap.size + 1, 1, none⟩ = some (.int .i64 d) := (hc1 _ _ (by simp <;> omega)).trans (by simp [World.cell?_alloc_at, World.cell?_alloc_past, lt2, lt3]); have kc1_0 : w1.cell? ⟨w.heap.size + 1 + 1, 0, none⟩ = some (.int .i64 0) := (hc1 _ _ (by simp <;> omega)).trans (by simp [World.cell?_alloc_at, World.cell?_alloc_past, lt2, lt3]); have kc1_1 : w1.cell? ⟨w.heap.size + 1 + 1, 1, none⟩ = some (.int .i64 0) := (hc1 _ _ (by simp <;> omega)).trans (by simp [World.cell?_alloc_at, World.cell?_alloc_past, lt2, lt3]); have kf1_0 : w1.frozen? ⟨w.heap.size + 1 + 1, 0, none⟩ = false := (hf1 _ _ (by simp <;> omega)).trans (by simp [World.frozen?_alloc_at, World.frozen?_alloc_past, lt2, lt3]); have kf1_1 : w1.frozen? ⟨w.heap.size + 1 + 1, 1, none⟩ = false := (hf1 _ _ (by simp <;> omega)).trans (by simp [World.frozen?_alloc_at, World.frozen?_alloc_past, lt2, lt3]); have B1 : Below w.heap.size w w1 := Below.trans (by repeat (first | (with_reducible refine Below.drew ?_) | (with_reducible refine below_drewN ?_ _) | (with_reducible refine Below.alloc ?_ ?_ _) | (with_reducible refine Below.setCell ?_ ?_ _) | (with_reducible assumption) | (with_reducible exact Below.refl _ _) | omega | (simp <;> omega))) (b1.mono (by first | omega | (simp <;> omega))); (try simp at hz1); have hy1 : w.heap.size < w1.heap.size := (by omega); clear b1)
           | ((with_reducible refine (HA.out _).mono ?_); rintro e w2 ⟨rfl, b2⟩; have hz2 := b2.size; obtain ⟨hc2, hf2⟩ := bcell b2; have kc2_0 := (hc2 _ _ (by omega)).trans kc1_0; have kc2_1 := (hc2 _ _ (by omega)).trans kc1_1; have kf2_0 := (hf2 _ _ (by omega)).trans kf1_0; have kf2_1 := (hf2 _ _ (by omega)).trans kf1_1; have B2 : Below w.heap.size w w2 := Below.trans (by repeat (first | (with_reducible refine Below.drew ?_) | (with_reducible refine below_drewN ?_ _) | (with_reducible refine Below.alloc ?_ ?_ _) | (with_reducible refine Below.setCell ?_ ?_ _) | (with_reducible assumption) | (with_reducible exact Below.refl _ _) | omega | (simp <;> omega))) (b2.mono (by first | omega | (simp <;> omega))); have t0 := (hc2 _ _ (by omega)).trans t0; have t1 := (hc2 _ _ (by omega)).trans t1; have t2 := (hc2 _ _ (by omega)).trans t2; have t3 := (hc2 _ _ (by omega)).trans t3; have hy2 : w.heap.size < w2.heap.size := (by omega); clear b2))
  go_wp2
  refine bodyPost_ret (v := .tuple #[.agg #[.int .i64 rn, .int .i64 rd], .bool rok]) (by simp [results, Tryd.results17, go_sem, *, lt2, lt3, lt4, lt5, lt6]) rfl ⟨rfl, (by repeat (first | (with_reducible refine Below.drew ?_) | (with_reducible refine below_drewN ?_ _) | (with_reducible refine Below.alloc ?_ ?_ _) | (with_reducible refine Below.setCell ?_ ?_ _) | (with_reducible assumption) | (with_reducible exact Below.refl _ _) | omega | (simp <;> omega)))⟩

end Go.Proofs.YtpollgibgphipaaDoor.Rat
