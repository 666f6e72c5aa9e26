/-
  The symbol of six angular momenta: the reference's.
-/
import Derived.Test.YthinhhfegflmmaaWays
import Derived.Test.YthinhhfegflmmaaRoot
namespace Go.Proofs.Ythinhhfegflmmaa.SixS
open Go.RowKit Go.Proofs.Ythinhhfegflmmaa.RatP Go.Proofs.Ythinhhfegflmmaa.ChoP Go.Proofs.Ythinhhfegflmmaa.StrP Go.Proofs.Ythinhhfegflmmaa.Spin Go.Proofs.Ythinhhfegflmmaa.Row Go.Proofs.Ythinhhfegflmmaa.Later Go.Proofs.Ythinhhfegflmmaa.Fact Go.Proofs.Ythinhhfegflmmaa.Delta Go.Proofs.Ythinhhfegflmmaa.Ways Go.Proofs.Ythinhhfegflmmaa.Root
set_option linter.unusedVariables false
set_option linter.unusedSimpArgs false

/-- the symbols that are asked for -/
def Dom (a b c d e : Int) : Prop := (a = 0 ∨ a = 2 ∨ a = 4 ∨ a = 6) ∧ (0 ≤ b ∧ b ≤ 6) ∧ (0 ≤ c ∧ c ≤ 6) ∧ (0 ≤ d ∧ d ≤ 6) ∧ (e = 0 ∨ e = 2 ∨ e = 4 ∨ e = 6) ∧ sixOk a b c d e 2 = true
theorem mem_ev {a : Int} (h : a = 0 ∨ a = 2 ∨ a = 4 ∨ a = 6) : a ∈ ([0, 2, 4, 6] : List Int) := by rcases h with rfl | rfl | rfl | rfl <;> decide
theorem every6_at {p : Int → Int → Int → Int → Int → Bool} (h : every6 p = true) {a b c d e : Int} (hd : Dom a b c d e) : p a b c d e = true := by
  obtain ⟨h1, h2, h3, h4, h5, h6⟩ := hd
  have h := List.all_eq_true.1 (List.all_eq_true.1 (List.all_eq_true.1 (List.all_eq_true.1 (List.all_eq_true.1 h a (mem_ev h1)) b (mem_js h2)) c (mem_js h3)) d (mem_js h4)) e (mem_ev h5)
  rw [h6] at h
  simpa using h
theorem six_small {a b c d e f : Int} (h : sixOk a b c d e f = true) : triOk a b c = true ∧ triOk a e f = true ∧ triOk d b f = true ∧ triOk d e c = true := by
  unfold sixOk at h
  rw [Bool.and_eq_true, Bool.and_eq_true, Bool.and_eq_true] at h
  exact ⟨h.1.1.1, h.1.1.2, h.1.2, h.2⟩
theorem den_bds : every6 (fun a b c d e => decide ((1 ≤ deltaS a b c ∧ deltaS a b c ≤ 1000000) ∧ (1 ≤ deltaS a e 2 ∧ deltaS a e 2 ≤ 1000000) ∧ (1 ≤ deltaS d b 2 ∧ deltaS d b 2 ≤ 1000000) ∧ (1 ≤ deltaS d e c ∧ deltaS d e c ≤ 1000000) ∧ (1 ≤ deltaI a b c ∧ deltaI a b c ≤ 1000000) ∧ (1 ≤ deltaI a e 2 ∧ deltaI a e 2 ≤ 1000000) ∧ (1 ≤ deltaI d b 2 ∧ deltaI d b 2 ≤ 1000000) ∧ (1 ≤ deltaI d e c ∧ deltaI d e c ≤ 1000000) ∧ (1 ≤ deltaS a b c * deltaS a e 2 ∧ deltaS a b c * deltaS a e 2 ≤ 1000000000000) ∧ (1 ≤ deltaS a b c * deltaS a e 2 * deltaS d b 2 ∧ deltaS a b c * deltaS a e 2 * deltaS d b 2 ≤ 1000000000000000000) ∧ (1 ≤ denS a b c d e 2 ∧ denS a b c d e 2 ≤ 4000000000000000000) ∧ (1 ≤ deltaI a b c * deltaI a e 2 ∧ deltaI a b c * deltaI a e 2 ≤ 1000000000000) ∧ (1 ≤ deltaI a b c * deltaI a e 2 * deltaI d b 2 ∧ deltaI a b c * deltaI a e 2 * deltaI d b 2 ≤ 1000000000000000000))) = true := by decide +kernel
theorem ways_bd {g : List Int} (hl : g.length = 7) (hg : Fine g) : -1000000000 ≤ StrP.ways g ∧ StrP.ways g ≤ 1000000000 := by
  by_cases h : ∀ j (hj : j < g.length), 0 ≤ g[j]
  · rw [ways_yes h]
    exact ((hg.2 h) g.length (Nat.le_refl _)).2
  · simp only [Classical.not_forall, Int.not_le] at h
    obtain ⟨j, hj, h1⟩ := h
    rw [ways_no hj h1]
    omega
theorem groups_len (a b c d e f t : Int) : (groups a b c d e f t).length = 7 := rfl

set_option maxRecDepth 100000 in
set_option maxHeartbeats 4000000 in
theorem sOk6 (a b c d e f : Int) (w : World) (ha : 0 ≤ a ∧ a ≤ 6) (hb : 0 ≤ b ∧ b ≤ 6) (hc : 0 ≤ c ∧ c ≤ 6) (hd : 0 ≤ d ∧ d ≤ 6) (he : 0 ≤ e ∧ e ≤ 6) (hf : 0 ≤ f ∧ f ≤ 6) :
    Calls Try.prog 57 #[.int .i64 a, .int .i64 b, .int .i64 c, .int .i64 d, .int .i64 e, .int .i64 f] w (Gives (.bool (sixOk a b c d e f)) w) := by
  have HR := Lib.hid (show sixOk a b c d e f = (tri a b c && tri a e f && tri d b f && tri d e c) by
    unfold sixOk triOk
    rw [small_true.2 ha, small_true.2 hb, small_true.2 hc, small_true.2 hd, small_true.2 he, small_true.2 hf]; simp)

  have Ia := fun W => l6In a 0 6 W
  rw [inB_true.2 ha] at Ia
  have HIa := Lib.hid Ia
  clear Ia ha
  have Ib := fun W => l6In b 0 6 W
  rw [inB_true.2 hb] at Ib
  have HIb := Lib.hid Ib
  clear Ib hb
  have Ic := fun W => l6In c 0 6 W
  rw [inB_true.2 hc] at Ic
  have HIc := Lib.hid Ic
  clear Ic hc
  have Id := fun W => l6In d 0 6 W
  rw [inB_true.2 hd] at Id
  have HId := Lib.hid Id
  clear Id hd
  have Ie := fun W => l6In e 0 6 W
  rw [inB_true.2 he] at Ie
  have HIe := Lib.hid Ie
  clear Ie he
  have If := fun W => l6In f 0 6 W
  rw [inB_true.2 hf] at If
  have HIf := Lib.hid If
  clear If hf
  have HT0 := Lib.hid (fun W (r : Bool) (h : tri a b c = r) => (h ▸ sSpinTriangle a b c W : Calls Try.prog 76 #[.int .i64 a, .int .i64 b, .int .i64 c] W fun e w' => e = .returned (.bool r) ∧ W = w'))
  have HT1 := Lib.hid (fun W (r : Bool) (h : tri a e f = r) => (h ▸ sSpinTriangle a e f W : Calls Try.prog 76 #[.int .i64 a, .int .i64 e, .int .i64 f] W fun e w' => e = .returned (.bool r) ∧ W = w'))
  have HT2 := Lib.hid (fun W (r : Bool) (h : tri d b f = r) => (h ▸ sSpinTriangle d b f W : Calls Try.prog 76 #[.int .i64 d, .int .i64 b, .int .i64 f] W fun e w' => e = .returned (.bool r) ∧ W = w'))
  have HT3 := Lib.hid (fun W (r : Bool) (h : tri d e c = r) => (h ▸ sSpinTriangle d e c W : Calls Try.prog 76 #[.int .i64 d, .int .i64 e, .int .i64 c] W fun e w' => e = .returned (.bool r) ∧ W = w'))
  go_enter Try.func57, Try.ntmps57
  go_wp2
  go_loopw [14] (fun i wr => ∃ m : Int, 0 ≤ m ∧ m ≤ 6 ∧ i = .int .i64 m ∧ w.alloc (.cells #[.int .i64 a, .int .i64 b, .int .i64 c, .int .i64 d, .int .i64 e, .int .i64 f] 3) = wr) (fun i _ => (6 - intOf i).toNat)
  case atStart => exact ⟨0, by omega, by omega, rfl, rfl⟩
  case round =>
    obtain ⟨m, hm0, hm, rfl, rfl⟩ := hrel
    obtain rfl | rfl | rfl | rfl | rfl | rfl | rfl : m = 0 ∨ m = 1 ∨ m = 2 ∨ m = 3 ∨ m = 4 ∨ m = 5 ∨ m = 6 := by omega
    · go_wp2_with fail
      (with_reducible refine (HIa.out _).mono ?_)
      rintro e w' ⟨rfl, rfl⟩
      go_wp2
      go_roundw
      case rel => exact ⟨1, by omega, by omega, rfl, trivial⟩
      case measure => simp [intOf]
    · go_wp2_with fail
      (with_reducible refine (HIb.out _).mono ?_)
      rintro e w' ⟨rfl, rfl⟩
      go_wp2
      go_roundw
      case rel => exact ⟨2, by omega, by omega, rfl, trivial⟩
      case measure => simp [intOf]
    · go_wp2_with fail
      (with_reducible refine (HIc.out _).mono ?_)
      rintro e w' ⟨rfl, rfl⟩
      go_wp2
      go_roundw
      case rel => exact ⟨3, by omega, by omega, rfl, trivial⟩
      case measure => simp [intOf]
    · go_wp2_with fail
      (with_reducible refine (HId.out _).mono ?_)
      rintro e w' ⟨rfl, rfl⟩
      go_wp2
      go_roundw
      case rel => exact ⟨4, by omega, by omega, rfl, trivial⟩
      case measure => simp [intOf]
    · go_wp2_with fail
      (with_reducible refine (HIe.out _).mono ?_)
      rintro e w' ⟨rfl, rfl⟩
      go_wp2
      go_roundw
      case rel => exact ⟨5, by omega, by omega, rfl, trivial⟩
      case measure => simp [intOf]
    · go_wp2_with fail
      (with_reducible refine (HIf.out _).mono ?_)
      rintro e w' ⟨rfl, rfl⟩
      go_wp2
      go_roundw
      case rel => exact ⟨6, by omega, by omega, rfl, trivial⟩
      case measure => simp [intOf]
    · have B1 : Below w.heap.size w (w.alloc (.cells #[.int .i64 a, .int .i64 b, .int .i64 c, .int .i64 d, .int .i64 e, .int .i64 f] 3)) := (Below.refl _ _).alloc (Nat.le_refl _) _
      cases k0 : tri a b c
      · have HV0 := Lib.hid (fun W => HT0.out W _ k0)
        have HF := Lib.hid (show sixOk a b c d e f = false by rw [HR.out, k0]; simp)
        clear k0
        go_wp2_with fail
        (with_reducible refine (HV0.out _).mono ?_)
        rintro e w' ⟨rfl, rfl⟩
        go_wp2
        go_ret
        exact ⟨ret_bool HF.out.symm, B1⟩
      · have HV0 := Lib.hid (fun W => HT0.out W _ k0)
        rw [k0] at HR
        clear k0
        cases k1 : tri a e f
        · have HV1 := Lib.hid (fun W => HT1.out W _ k1)
          have HF := Lib.hid (show sixOk a b c d e f = false by rw [HR.out, k1]; simp)
          clear k1
          go_wp2_with fail
          (with_reducible refine (HV0.out _).mono ?_)
          rintro e w' ⟨rfl, rfl⟩
          go_wp2_with fail
          (with_reducible refine (HV1.out _).mono ?_)
          rintro e w' ⟨rfl, rfl⟩
          go_wp2
          go_ret
          exact ⟨ret_bool HF.out.symm, B1⟩
        · have HV1 := Lib.hid (fun W => HT1.out W _ k1)
          rw [k1] at HR
          clear k1
          cases k2 : tri d b f
          · have HV2 := Lib.hid (fun W => HT2.out W _ k2)
            have HF := Lib.hid (show sixOk a b c d e f = false by rw [HR.out, k2]; simp)
            clear k2
            go_wp2_with fail
            (with_reducible refine (HV0.out _).mono ?_)
            rintro e w' ⟨rfl, rfl⟩
            go_wp2_with fail
            (with_reducible refine (HV1.out _).mono ?_)
            rintro e w' ⟨rfl, rfl⟩
            go_wp2_with fail
            (with_reducible refine (HV2.out _).mono ?_)
            rintro e w' ⟨rfl, rfl⟩
            go_wp2
            go_ret
            exact ⟨ret_bool HF.out.symm, B1⟩
          · have HV2 := Lib.hid (fun W => HT2.out W _ k2)
            rw [k2] at HR
            clear k2
            cases k3 : tri d e c
            · have HV3 := Lib.hid (fun W => HT3.out W _ k3)
              have HF := Lib.hid (show sixOk a b c d e f = false by rw [HR.out, k3]; simp)
              clear k3
              go_wp2_with fail
              (with_reducible refine (HV0.out _).mono ?_)
              rintro e w' ⟨rfl, rfl⟩
              go_wp2_with fail
              (with_reducible refine (HV1.out _).mono ?_)
              rintro e w' ⟨rfl, rfl⟩
              go_wp2_with fail
              (with_reducible refine (HV2.out _).mono ?_)
              rintro e w' ⟨rfl, rfl⟩
              go_wp2_with fail
              (with_reducible refine (HV3.out _).mono ?_)
              rintro e w' ⟨rfl, rfl⟩
              go_wp2
              go_ret
              exact ⟨ret_bool HF.out.symm, B1⟩
            · have HV3 := Lib.hid (fun W => HT3.out W _ k3)
              rw [k3] at HR
              clear k3
              have HF := Lib.hid (show sixOk a b c d e f = true by rw [HR.out]; simp)
              go_wp2_with fail
              (with_reducible refine (HV0.out _).mono ?_)
              rintro e w' ⟨rfl, rfl⟩
              go_wp2_with fail
              (with_reducible refine (HV1.out _).mono ?_)
              rintro e w' ⟨rfl, rfl⟩
              go_wp2_with fail
              (with_reducible refine (HV2.out _).mono ?_)
              rintro e w' ⟨rfl, rfl⟩
              go_wp2_with fail
              (with_reducible refine (HV3.out _).mono ?_)
              rintro e w' ⟨rfl, rfl⟩
              go_wp2
              go_ret
              exact ⟨ret_bool HF.out.symm, B1⟩
theorem sOk6_is {a b c d e f : Int} {r : Bool} (w : World) (ha : 0 ≤ a ∧ a ≤ 6) (hb : 0 ≤ b ∧ b ≤ 6) (hc : 0 ≤ c ∧ c ≤ 6) (hd : 0 ≤ d ∧ d ≤ 6) (he : 0 ≤ e ∧ e ≤ 6) (hf : 0 ≤ f ∧ f ≤ 6) (h : sixOk a b c d e f = r) :
    Calls Try.prog 57 #[.int .i64 a, .int .i64 b, .int .i64 c, .int .i64 d, .int .i64 e, .int .i64 f] w (Gives (.bool r) w) := h ▸ sOk6 a b c d e f w ha hb hc hd he hf

set_option maxRecDepth 100000 in
set_option maxHeartbeats 4000000 in
theorem sSixSum (a b c d e : Int) (w : World) (hd : Dom a b c d e) : Calls Try.prog 79 #[.int .i64 a, .int .i64 b, .int .i64 c, .int .i64 d, .int .i64 e, .int .i64 2] w (Gives (.int .i64 (sumS a b c d e 2)) w) := by
  obtain ⟨k1, k2, k3, k4⟩ := six_small hd.2.2.2.2.2
  obtain ⟨⟨a0, a1⟩, ⟨b0, b1⟩, ⟨c0, c1⟩, -⟩ := triOk_parts k1
  obtain ⟨-, ⟨e0, e1⟩, -, -⟩ := triOk_parts k2
  obtain ⟨⟨d0, d1⟩, -⟩ := triOk_parts k3
  have HK := Lib.hid (fun W => sOk6_is W ⟨a0, a1⟩ ⟨b0, b1⟩ ⟨c0, c1⟩ ⟨d0, d1⟩ ⟨e0, e1⟩ (f := 2) (by omega) hd.2.2.2.2.2)
  have HFN := Lib.hid (fun (n : Nat) (h : n < 13) => fine_of (groups_len a b c d e 2 n) (List.all_eq_true.1 (every6_at groups_fine hd) n (List.mem_range.2 h)))
  have HS := Lib.hid (show sumS a b c d e 2 = sumFromTo (termS a b c d e 2) 0 13 from rfl)
  have HTM := Lib.hid (fun t => show termS a b c d e 2 t = (if t % 2 = 1 then -1 else 1) * ((t + 1) * StrP.ways (groups a b c d e 2 t)) from rfl)
  clear k1 k2 k3 k4 hd
  generalize sumS a b c d e 2 = R at *
  generalize termS a b c d e 2 = tm at *
  go_enter Try.func79, Try.ntmps79
  go_wp2_with fail
  (with_reducible refine (HK.out _).mono ?_)
  rintro e' w1 ⟨rfl, B1⟩
  go_wp2
  go_loopw [13, 14] (fun s t wr => ∃ (n : Nat) (sm : Int), n ≤ 13 ∧ s = .int .i64 sm ∧ t = .int .i64 n ∧ -(13000000000 * (n : Int)) ≤ sm ∧ sm ≤ 13000000000 * (n : Int) ∧ Hid (sm = sumFromTo tm 0 n) ∧ Below w.heap.size w wr) (fun _ t _ => (20 - intOf t).toNat)
  case atStart => exact ⟨0, 0, by omega, rfl, rfl, by omega, by omega, Lib.hid rfl, B1⟩
  case round =>
    obtain ⟨n, sm, hn, rfl, rfl, hs1, hs2, hT, hB⟩ := hrel
    clear B1
    have hsz := hB.size
    by_cases hle : n ≤ 12
    · have hleI : (n : Int) ≤ 12 := by omega
      have HF := Lib.hid (HFN.out n (by omega))
      have HWB := ways_bd (groups_len a b c d e 2 n) HF.out
      have HTN := Lib.hid (HTM.out n)
      obtain ⟨obj, hobj⟩ : ∃ o, o = (.cells #[.int .i64 (n - (a + b + c) / 2), .int .i64 (n - (a + e + 2) / 2), .int .i64 (n - (d + b + 2) / 2), .int .i64 (n - (d + e + c) / 2), .int .i64 ((a + b + d + e) / 2 - n), .int .i64 ((b + c + e + 2) / 2 - n), .int .i64 ((a + c + d + 2) / 2 - n)] 3 : Obj) := ⟨_, rfl⟩
      have hcell : ∀ j (hj : j < (groups a b c d e 2 n).length), (wr.alloc (.cells #[.int .i64 (n - (a + b + c) / 2), .int .i64 (n - (a + e + 2) / 2), .int .i64 (n - (d + b + 2) / 2), .int .i64 (n - (d + e + c) / 2), .int .i64 ((a + b + d + e) / 2 - n), .int .i64 ((b + c + e + 2) / 2 - n), .int .i64 ((a + c + d + 2) / 2 - n)] 3)).cell? ⟨wr.heap.size, j, none⟩ = some (.int .i64 (groups a b c d e 2 n)[j]) := by
        intro j hj
        rw [groups_len] at hj
        obtain rfl | rfl | rfl | rfl | rfl | rfl | rfl : j = 0 ∨ j = 1 ∨ j = 2 ∨ j = 3 ∨ j = 4 ∨ j = 5 ∨ j = 6 := by omega
        all_goals simp [groups]
      have HW := Lib.hid (sWays (groups a b c d e 2 n) (groups_len _ _ _ _ _ _ _) wr.heap.size 7 (by omega) (by unfold maxLen; omega) _ hcell HF.out)
      clear hcell hobj
      generalize StrP.ways (groups a b c d e 2 n) = wy at *
      obtain ⟨w1', w2'⟩ := HWB
      have hp := mul_bds (a := (n : Int) + 1) (b := wy) (A := 13) (B := 1000000000) (by omega) (by omega) w1' w2' (by omega)
      obtain ⟨p1, p2⟩ := hp
      go_wp2_with fail
      (refine HW.out.mono ?_)
      rintro e' w' ⟨rfl, rfl⟩
      have B2 := hB.alloc hsz (.cells #[.int .i64 (n - (a + b + c) / 2), .int .i64 (n - (a + e + 2) / 2), .int .i64 (n - (d + b + 2) / 2), .int .i64 (n - (d + e + c) / 2), .int .i64 ((a + b + d + e) / 2 - n), .int .i64 ((b + c + e + 2) / 2 - n), .int .i64 ((a + c + d + 2) / 2 - n)] 3)
      have hsum : sumFromTo tm 0 (n + 1) = sumFromTo tm 0 n + tm n := by show sumFromTo tm 0 n + tm (0 + n) = _; rw [Int.zero_add]
      have HSM := Lib.hid hsum
      clear hsum
      by_cases hpar : (n : Int) % 2 = 1
      · have hp1 : ((n : Int) % 2 == 1) = true := by rw [beq_iff_eq]; exact hpar
        have HX := Lib.hid (show tm n = -(((n : Int) + 1) * wy) by rw [HTN.out, if_pos hpar]; omega)
        clear hpar
        go_wp2
        go_roundw
        case rel => exact ⟨n + 1, _, by omega, rfl, by go_num, by omega, by omega, Lib.hid (by rw [HSM.out, HX.out, ← hT.out] <;> omega), B2⟩
        case measure => simp [intOf]; omega
      · have hp1 : ((n : Int) % 2 == 1) = false := by rw [beq_eq_false_iff_ne]; exact hpar
        have HX := Lib.hid (show tm n = ((n : Int) + 1) * wy by rw [HTN.out, if_neg hpar]; omega)
        clear hpar
        go_wp2
        go_roundw
        case rel => exact ⟨n + 1, _, by omega, rfl, by go_num, by omega, by omega, Lib.hid (by rw [HSM.out, HX.out, ← hT.out]), B2⟩
        case measure => simp [intOf]; omega
    · have hleI : ¬ (n : Int) ≤ 12 := by omega
      have HR := Lib.hid (show sm = R by rw [hT.out, HS.out]; congr 1; omega)
      clear hT
      go_wp2
      go_ret
      exact ⟨ret_int HR.out, hB⟩


end Go.Proofs.Ythinhhfegflmmaa.SixS
