/-
  The draw of components and a kind.
-/
import Derived.Test.YtdejlinldocfjaaDrawSpl
namespace Go.Proofs.Ytdejlinldocfjaa.DrawKind
open Go.RowKit Go.Proofs.Ytdejlinldocfjaa.RatP Go.Proofs.Ytdejlinldocfjaa.SplitPlain Go.Proofs.Ytdejlinldocfjaa.SplitP Go.Proofs.Ytdejlinldocfjaa.SplitDef Go.Proofs.Ytdejlinldocfjaa.Fac Go.Proofs.Ytdejlinldocfjaa.SplS Go.Proofs.Ytdejlinldocfjaa.Spin Go.Proofs.Ytdejlinldocfjaa.Row Go.Proofs.Ytdejlinldocfjaa.Coupled Go.Proofs.Ytdejlinldocfjaa.Rd Go.Proofs.Ytdejlinldocfjaa.DrawSpl
set_option linter.unusedVariables false
set_option linter.unusedSimpArgs false

theorem kinds_at (v : Int) (h0 : 0 ≤ v) (h1 : v < 5) : ∃ kd : Int, -2 ≤ kd ∧ kd ≤ 2 ∧ (∀ W : World, (W.alloc (.cells #[.int .i64 (-2), .int .i64 0, .int .i64 2, .int .i64 2, .int .i64 1] 3)).cell? ⟨W.heap.size, v.toNat, none⟩ = some (.int .i64 kd)) := by
  obtain rfl | rfl | rfl | rfl | rfl : v = 0 ∨ v = 1 ∨ v = 2 ∨ v = 3 ∨ v = 4 := by omega
  · exact ⟨-2, by omega, by omega, fun W => by simp⟩
  · exact ⟨0, by omega, by omega, fun W => by simp⟩
  · exact ⟨2, by omega, by omega, fun W => by simp⟩
  · exact ⟨2, by omega, by omega, fun W => by simp⟩
  · exact ⟨1, by omega, by omega, fun W => by simp⟩
theorem mgrown {R : Nat} {K : Int} {w w' : World} (h : Moved R K w w') : w.grownBy w' (some R) := h.1
theorem msize {R : Nat} {K : Int} {w w' : World} (h : Moved R K w w') : w.heap.size ≤ w'.heap.size := Nat.le_of_eq h.2.1.symm
def SomeKind (w : World) (e : Ending) (w' : World) : Prop :=
  ∃ (v : Value) (xs : List Sp) (kd : Int), xs.length ≤ 20 ∧ (-2 ≤ kd ∧ kd ≤ 2) ∧ e = .returned (.tuple #[v, .int .i64 kd]) ∧ w'.ownsRow w.heap.size 40 6 v xs.length (xs.flatMap encSp) ∧ Below w.heap.size w w'
set_option maxRecDepth 100000 in
set_option maxHeartbeats 4000000 in
theorem drawSplitKind (a : Option Addr) (n c : Nat) (zs : List Int) (w : World) (h : IsRow .u8 w a n c zs) :
    Calls Try.prog 21 #[.slice a n c] w (SomeKind w) := by
  have HO := Lib.hid (open_any a n c zs _ h)
  clear h
  go_enter Try.func21, Try.ntmps21
  go_wp2_with fail
  refine HO.out.mono ?_
  rintro e w1 ⟨rfl, b1, s1, r1⟩
  clear HO
  go_wp2_with fail
  (with_reducible refine (l92Splits w.heap.size 0 _ (by repeat (first | (with_reducible assumption) | (with_reducible refine Rd.alloc ?_ _) | (with_reducible refine Rd.setCell ?_ ?_ _) | (with_reducible refine Rd.drew ?_) | omega | (simp <;> omega))) (by omega)).mono ?_)
  rintro e w2 ⟨v, xs, hD, rfl, O2, g2, r2⟩
  have B2 : Below w.heap.size w w2 := below_only b1 g2 (by omega) (fun g h => by injection h; omega)
  have hzz := g2.size
  have O2' := Lib.hid (own_base O2 (show w.heap.size + 1 ≤ w1.heap.size by omega))
  have hlen : xs.length ≤ 20 := hD.1
  have hrl : w.heap.size < w2.heap.size := by omega
  have HNE := Lib.hid (show w2.heap.size ≠ w.heap.size by omega)
  have HR2 := Lib.hid r2
  have HB2 := Lib.hid B2
  clear g2 r2 r1 b1 O2 hD s1 hzz B2
  go_wp2_with fail
  have HDW : Rd w2.drew w.heap.size (0 + 23) := HR2.out.drew
  have HDA : Rd (w2.alloc (.cells #[.int .i64 (-2), .int .i64 0, .int .i64 2, .int .i64 2, .int .i64 1] 3)).drew w.heap.size (0 + 23) := (HR2.out.alloc _).drew
  have OD := Lib.hid (show w2.drew.ownsRow (w.heap.size + 1) 40 6 v xs.length (xs.flatMap encSp) from O2'.out)
  have OAD := Lib.hid (show (w2.alloc (.cells #[.int .i64 (-2), .int .i64 0, .int .i64 2, .int .i64 2, .int .i64 1] 3)).drew.ownsRow (w.heap.size + 1) 40 6 v xs.length (xs.flatMap encSp) from O2'.out.alloc (.cells #[.int .i64 (-2), .int .i64 0, .int .i64 2, .int .i64 2, .int .i64 1] 3))
  have BAD := Lib.hid ((HB2.out.alloc HB2.out.size (.cells #[.int .i64 (-2), .int .i64 0, .int .i64 2, .int .i64 2, .int .i64 1] 3)).drew)
  have SAD := Lib.hid (show w.heap.size ≤ (w2.alloc (.cells #[.int .i64 (-2), .int .i64 0, .int .i64 2, .int .i64 2, .int .i64 1] 3)).drew.heap.size from (HB2.out.alloc HB2.out.size (.cells #[.int .i64 (-2), .int .i64 0, .int .i64 2, .int .i64 2, .int .i64 1] 3)).size)
  have BD := Lib.hid (HB2.out.drew)
  have SD := Lib.hid (show w.heap.size ≤ w2.drew.heap.size from HB2.out.size)
  have HK1 : (0 + 23 : Int) ≤ 1000000000 := by omega
  have HK2 : (1 : Int) ≤ 5 := by omega
  go_region_with
    (first | (go_at_call 39; (with_reducible refine (pick_any w.heap.size (0 + 23) _ _ (by first | with_reducible exact HDW | with_reducible exact HDA) HK1 HK2).mono ?_); rintro e w3 ⟨v3, v3l, v3h, rfl, m3⟩; obtain ⟨kd, k1, k2, hkd⟩ := kinds_at v3 v3l v3h; (first | (have gx : w2.drew.grownBy w3 (some w.heap.size) := (by with_reducible exact mgrown m3); have hk3 := hkd w3; have O3 := Lib.hid ((own_only OD.out gx (by omega)).alloc (.cells #[.int .i64 (-2), .int .i64 0, .int .i64 2, .int .i64 2, .int .i64 1] 3)); have B3 := Lib.hid ((below_only BD.out gx SD.out (fun g h => by injection h; omega)).alloc (Nat.le_trans SD.out (msize m3)) (.cells #[.int .i64 (-2), .int .i64 0, .int .i64 2, .int .i64 2, .int .i64 1] 3))) | (have gx : (w2.alloc (.cells #[.int .i64 (-2), .int .i64 0, .int .i64 2, .int .i64 2, .int .i64 1] 3)).drew.grownBy w3 (some w.heap.size) := (by with_reducible exact mgrown m3); have hk3 := (World.cell?_of_block (a := ⟨w2.heap.size, v3.toNat, none⟩) (m3.block HNE.out)).trans (hkd w2); have O3 := Lib.hid (own_only OAD.out gx (by omega)); have B3 := Lib.hid (below_only BAD.out gx SAD.out (fun g h => by injection h; omega)))); clear hkd m3 gx))
  · go_wp2
    refine bodyPost_ret (v := .tuple #[v, .int .i64 kd]) (by simp [results, Try.results21, go_sem]) rfl ⟨v, xs, kd, hlen, ⟨k1, k2⟩, rfl, own_base O3.out (by omega), B3.out⟩
  · go_wp2
    refine bodyPost_ret (v := .tuple #[v, .int .i64 kd]) (by simp [results, Try.results21, go_sem]) rfl ⟨v, xs, kd, hlen, ⟨k1, k2⟩, rfl, own_base O3.out (by omega), B3.out⟩
end Go.Proofs.Ytdejlinldocfjaa.DrawKind
