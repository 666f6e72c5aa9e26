/-
  The walk of the law FnSplitSum.
-/
import Derived.Test.YtdejlinldocfjaaSplitLaws
import Derived.Test.YtdejlinldocfjaaDrawSpl
import Derived.Test.YtdejlinldocfjaaSplitSumS
namespace Go.Proofs.Ytdejlinldocfjaa.WFnSplitSum
open Go.RowKit Go.Proofs.Ytdejlinldocfjaa.RatP Go.Proofs.Ytdejlinldocfjaa.Rat Go.Proofs.Ytdejlinldocfjaa.Spin Go.Proofs.Ytdejlinldocfjaa.Row Go.Proofs.Ytdejlinldocfjaa.Later Go.Proofs.Ytdejlinldocfjaa.SplitPlain Go.Proofs.Ytdejlinldocfjaa.SplitDef Go.Proofs.Ytdejlinldocfjaa.SplitP Go.Proofs.Ytdejlinldocfjaa.SplitLaws Go.Proofs.Ytdejlinldocfjaa.Two Go.Proofs.Ytdejlinldocfjaa.Rd Go.Proofs.Ytdejlinldocfjaa.DrawSpl Go.Proofs.Ytdejlinldocfjaa.SplitSum
set_option linter.unusedVariables false
set_option linter.unusedSimpArgs false

theorem flat_drop {α : Type} (enc : α → List Value) (k : Nat) (hk : ∀ x, (enc x).length = k) (xs : List α) (a : Nat) (ha : a ≤ xs.length) : (xs.drop a).flatMap enc = (xs.flatMap enc).drop (a * k) := by
  have e : xs.flatMap enc = (xs.take a).flatMap enc ++ (xs.drop a).flatMap enc := by rw [← List.flatMap_append, List.take_append_drop]
  have hl : ((xs.take a).flatMap enc).length = a * k := by rw [flat_length enc k hk, List.length_take, Nat.min_eq_left ha]
  rw [e, ← hl, List.drop_left]
theorem flat_take' {α : Type} (enc : α → List Value) (k : Nat) (hk : ∀ x, (enc x).length = k) (xs : List α) (a : Nat) (ha : a ≤ xs.length) : (xs.take a).flatMap enc = (xs.flatMap enc).take (a * k) := by
  have e : xs.flatMap enc = (xs.take a).flatMap enc ++ (xs.drop a).flatMap enc := by rw [← List.flatMap_append, List.take_append_drop]
  have hl : ((xs.take a).flatMap enc).length = a * k := by rw [flat_length enc k hk, List.length_take, Nat.min_eq_left ha]
  rw [e, ← hl, List.take_left]
set_option maxRecDepth 100000 in
/-- both parts of a row of components -/
theorem parts {w : World} {base : Nat} {v : Value} {z : List Sp} (O : w.ownsRow base 40 6 v z.length (z.flatMap encSp)) (k : Nat) (hk : k ≤ z.length) :
    ∃ (a : Option Addr) (c : Nat) (vk vd : Value), v = .slice a z.length c ∧ (∀ W, (Instr.slice 24 (.slice a z.length c) none (some (.int .i64 (k : Int))) none).run Try.prog W = .ok vk W) ∧ (∀ W, (Instr.slice 24 (.slice a z.length c) (some (.int .i64 (k : Int))) none none).run Try.prog W = .ok vd W) ∧
      Sees w 6 vk (z.take k).length ((z.take k).flatMap encSp) ∧ Sees w 6 vd (z.drop k).length ((z.drop k).flatMap encSp) := by
  have hs : ∀ W, (Go.sizeOf (Try.prog.elem 24)).run Try.prog W = .ok 6 W := fun W => Try.sizeOf40 W
  have r1 : ∀ (a : Option Addr) (n c : Nat), k ≤ n → n ≤ c → ∀ W, (Instr.slice 24 (.slice a n c) none (some (.int .i64 (k : Int))) none).run Try.prog W = .ok (sliced a 0 k c 6) W := by
    intro a n c h1 h2 W
    rw [run_slice_h (P := Try.prog) W 24 a n c Try.underlying24 .i64 (k : Int) (by omega) (by omega), hs]
    simp only [Result.andThen, Int.toNat_natCast]
  have r2 : ∀ (a : Option Addr) (n c : Nat), k ≤ n → n ≤ c → ∀ W, (Instr.slice 24 (.slice a n c) (some (.int .i64 (k : Int))) none none).run Try.prog W = .ok (sliced a k n c 6) W := by
    intro a n c h1 h2 W
    rw [run_slice_l (P := Try.prog) W 24 a n c Try.underlying24 .i64 (k : Int) (by omega) (by omega), hs]
    simp only [Result.andThen, Int.toNat_natCast]
  rcases O.2 with ⟨rfl, h0⟩ | ⟨g, c, cur, rfl, hb, hg, hn, hm, _, _⟩
  · have hz := List.eq_nil_of_length_eq_zero h0
    subst hz
    obtain rfl : k = 0 := by simpa using hk
    exact ⟨none, 0, _, _, rfl, r1 _ _ _ (by simp) (by simp), r2 _ _ _ (by simp) (by simp), ⟨rfl, .inl ⟨rfl, _, _, rfl⟩⟩, ⟨rfl, .inl ⟨rfl, _, _, rfl⟩⟩⟩
  · have hl := lt_of_block hg
    have hcell := fun j (hj : j < z.length * 6) => O.cellAt j hj
    have fl := flat_length encSp 6 encSp_len z
    refine ⟨some ⟨g, 0, none⟩, c, _, _, rfl, r1 _ _ _ hk hn, r2 _ _ _ hk hn, ⟨flat_length encSp 6 encSp_len _, .inr ⟨g, 0, c, ?_, ?_, hm, hl, ?_⟩⟩, ⟨flat_length encSp 6 encSp_len _, ?_⟩⟩
    · simp [sliced, List.length_take, Nat.min_eq_left hk, Addr.add]
    · rw [List.length_take]; omega
    · intro j hj
      rw [List.length_take, Nat.min_eq_left hk] at hj
      rw [Nat.zero_add, hcell j (by omega), flat_take' encSp 6 encSp_len z k hk, List.getElem?_take_of_lt hj]
    · by_cases e : c = k
      · have : z.length = k := by omega
        exact .inl ⟨by rw [List.length_drop]; omega, _, _, by simp only [sliced, this, Nat.sub_self]; rfl⟩
      · refine .inr ⟨g, k * 6, c - k, ?_, by rw [List.length_drop]; omega, by omega, hl, ?_⟩
        · simp [sliced, e, List.length_drop, Go.WideShapes.add_plain]
        · intro j hj
          rw [List.length_drop] at hj
          rw [hcell (k * 6 + j) (by omega), flat_drop encSp 6 encSp_len z k hk, List.getElem?_drop]

set_option maxRecDepth 100000 in
set_option maxHeartbeats 4000000 in
theorem fnSplitSum (a : Option Addr) (n c : Nat) (zs : List Int) (a2 : Option Addr) (n2 c2 : Nat) (zs2 : List Int) (w0 : World) (h : IsRow .u8 w0 a n c zs) (h2 : IsRow .u8 w0 a2 n2 c2 zs2) :
    Calls Try.prog 7 #[.slice a n c, .slice a2 n2 c2] w0 (Yes w0) := by
  have HO := Lib.hid (drawSplitSum a n c zs w0 h)
  clear h h2
  by_cases hn : 1048576 < n
  · go_enter Try.func7, Try.ntmps7
    go_wp2_with fail
    go_ret
    exact ⟨rfl, Below.refl _ _⟩
  have hd1 : decide ((1048576 : Int) < (n : Int)) = false := decide_eq_false (by omega)
  by_cases hn2 : 1048576 < n2
  · have hd2 : decide ((1048576 : Int) < (n2 : Int)) = true := decide_eq_true (by omega)
    go_enter Try.func7, Try.ntmps7
    go_wp2_with fail
    all_goals go_ret
    all_goals exact ⟨rfl, Below.refl _ _⟩
  have hd2 : decide ((1048576 : Int) < (n2 : Int)) = false := decide_eq_false (by omega)
  have hn2' : n2 ≤ 1048576 := by omega
  go_enter Try.func7, Try.ntmps7
  go_wp2_with fail
  refine HO.out.mono ?_
  rintro e w ⟨v, z, hD, rfl, O0, B0⟩
  have hx : z.length ≤ 1048576 := by have := hD.1; omega
  have hm20 : z.length ≤ 20 := hD.1
  obtain ⟨kk, hkk⟩ : ∃ kk : Nat, kk = n2 % (z.length + 1) := ⟨_, rfl⟩
  have hkm : kk ≤ z.length := by have := Nat.mod_lt n2 (show 0 < z.length + 1 by omega); omega
  have hkI : (n2 : Int) % ((z.length : Int) + 1) = (kk : Int) := by rw [hkk]; push_cast; rfl
  obtain ⟨a', c', vk, vd, rfl, hs1, hs2, S1, S2⟩ := parts O0 kk hkm
  have HI := Lib.hid (fun W (h : Below w.heap.size w W) => iSplitSum z _ W ((Sees.of_own O0).below h (Nat.le_refl _)) hx)
  have HS := Lib.hid (fun W (h : Below w.heap.size w W) => sSplitSum z _ W ((Sees.of_own O0).below h (Nat.le_refl _)) hx)
  have HI1 := Lib.hid (fun W (h : Below w.heap.size w W) => iSplitSum (z.take kk) _ W (S1.below h (Nat.le_refl _)) (by rw [List.length_take]; omega))
  have HI2 := Lib.hid (fun W (h : Below w.heap.size w W) => iSplitSum (z.drop kk) _ W (S2.below h (Nat.le_refl _)) (by rw [List.length_drop]; omega))
  unfold roV at HI HS HI1 HI2
  have hD2 : (sumL z = bad) ∨ ((sumL z).ok = true ∧ (sumL (z.take kk)).ok = true ∧ (sumL (z.drop kk)).ok = true ∧ addQ (sumL (z.take kk)) (sumL (z.drop kk)) = sumL z) := by
    rcases hD.2 with ⟨h1, _⟩ | ⟨h1, _⟩
    · exact .inr (h1.parts kk)
    · exact .inl h1
  clear hD S1 S2 O0 hkk
  generalize sumL (z.take kk) = x at *
  generalize sumL (z.drop kk) = y at *
  generalize sumL z = r at *
  clear hx
  obtain ⟨rn, rd, rok⟩ := r
  obtain ⟨xn, xd, xok⟩ := x
  obtain ⟨yn, yd, yok⟩ := y
  have b0 := Below.refl w.heap.size w
  go_wp2_with fail
  (with_reducible refine (HI.out _ b0).mono ?_)
  rintro e w1 ⟨rfl, b1⟩
  have B1 := (b0).trans (b1.mono (b0).size)
  clear b1
  have TA1 := Two.new w1 rn rd 31
  go_wp2_with fail
  (with_reducible refine (HS.out _ (B1.alloc B1.size _)).mono ?_)
  rintro e w2 ⟨rfl, b2⟩
  have B2 := ((B1.alloc B1.size (.cells #[.int .i64 rn, .int .i64 rd] 31))).trans (b2.mono ((B1.alloc B1.size (.cells #[.int .i64 rn, .int .i64 rd] 31))).size)
  have TA2 := (TA1).below b2 (TA1).2.2.2.2
  clear b2
  have TAH2 := Lib.hid TA2
  obtain ⟨TAx2, TAy2, _, _, TAl2⟩ := TA2
  rcases hD2 with hbad | ⟨h1, h2, h3, h4⟩
  · injection hbad with h1 h2 h3
    subst h1; subst h2; subst h3
    go_wp2
    go_ret
    exact ⟨rfl, B0.trans ((B2.alloc B2.size _).mono B0.size)⟩
  · have h1 : rok = true := h1
    have h2 : xok = true := h2
    have h3 : yok = true := h3
    subst h1; subst h2; subst h3
    have hadd : addR xn xd yn yd = ⟨rn, rd, true⟩ := h4
    have HADD := Lib.hid (fun W => iRatAdd xn xd yn yd W)
    rw [hadd] at HADD
    unfold roV at HADD
    clear hadd h4
    go_wp2_with fail
    (with_reducible refine (HI1.out _ (B2.alloc B2.size _)).mono ?_)
    rintro e w3 ⟨rfl, b3⟩
    have B3 := ((B2.alloc B2.size (.cells #[.int .i64 rn, .int .i64 rd] 31))).trans (b3.mono ((B2.alloc B2.size (.cells #[.int .i64 rn, .int .i64 rd] 31))).size)
    have TA3 := (TAH2.out.alloc (.cells #[.int .i64 rn, .int .i64 rd] 31)).below b3 (TAH2.out.alloc (.cells #[.int .i64 rn, .int .i64 rd] 31)).2.2.2.2
    clear b3
    clear TAx2 TAy2 TAl2
    have TX3 := Two.new w3 xn xd 31
    have TAH3 := Lib.hid TA3
    obtain ⟨TAx3, TAy3, _, _, TAl3⟩ := TA3
    go_wp2_with fail
    (with_reducible refine (HI2.out _ (B3.alloc B3.size _)).mono ?_)
    rintro e w4 ⟨rfl, b4⟩
    have B4 := ((B3.alloc B3.size (.cells #[.int .i64 xn, .int .i64 xd] 31))).trans (b4.mono ((B3.alloc B3.size (.cells #[.int .i64 xn, .int .i64 xd] 31))).size)
    have TA4 := (TAH3.out.alloc (.cells #[.int .i64 xn, .int .i64 xd] 31)).below b4 (TAH3.out.alloc (.cells #[.int .i64 xn, .int .i64 xd] 31)).2.2.2.2
    have TX4 := (TX3).below b4 (TX3).2.2.2.2
    clear b4
    clear TAx3 TAy3 TAl3
    have TAH4 := Lib.hid TA4
    obtain ⟨TAx4, TAy4, _, _, TAl4⟩ := TA4
    have TXH4 := Lib.hid TX4
    obtain ⟨TXx4, TXy4, _, _, TXl4⟩ := TX4
    go_wp2_with fail
    (with_reducible refine (HADD.out _).mono ?_)
    rintro e w5 ⟨rfl, b5⟩
    have B5 := ((B4.alloc B4.size (.cells #[.int .i64 yn, .int .i64 yd] 31))).trans (b5.mono ((B4.alloc B4.size (.cells #[.int .i64 yn, .int .i64 yd] 31))).size)
    have TA5 := (TAH4.out.alloc (.cells #[.int .i64 yn, .int .i64 yd] 31)).below b5 (TAH4.out.alloc (.cells #[.int .i64 yn, .int .i64 yd] 31)).2.2.2.2
    clear b5
    clear TAx4 TAy4 TAl4
    clear TXx4 TXy4 TXl4
    have TAH5 := Lib.hid TA5
    obtain ⟨TAx5, TAy5, _, _, TAl5⟩ := TA5
    go_wp2
    go_ret
    exact ⟨rfl, B0.trans ((B5.alloc B5.size _).mono B0.size)⟩
end Go.Proofs.Ytdejlinldocfjaa.WFnSplitSum
