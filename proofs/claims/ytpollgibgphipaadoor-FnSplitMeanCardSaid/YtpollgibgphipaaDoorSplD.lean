/-
  What the walks of the laws on splits share.
-/
import Derived.Test.YtpollgibgphipaaDoorSplitLaws
import Derived.Test.YtpollgibgphipaaDoorSplI
import Derived.Test.YtpollgibgphipaaDoorSplitM
namespace Go.Proofs.YtpollgibgphipaaDoor.SplD
open Go.RowKit Go.Proofs.YtpollgibgphipaaDoor.Rat Go.Proofs.YtpollgibgphipaaDoor.RatP Go.Proofs.YtpollgibgphipaaDoor.Spin Go.Proofs.YtpollgibgphipaaDoor.Row Go.Proofs.YtpollgibgphipaaDoor.SplitPlain Go.Proofs.YtpollgibgphipaaDoor.SplitP Go.Proofs.YtpollgibgphipaaDoor.SplitDef Go.Proofs.YtpollgibgphipaaDoor.SplitLaws Go.Proofs.YtpollgibgphipaaDoor.Two Go.Proofs.YtpollgibgphipaaDoor.Fac Go.Proofs.YtpollgibgphipaaDoor.SplI
set_option linter.unusedVariables false
set_option linter.unusedSimpArgs false

theorem lv6_two (w : World) (s l j s' l' j' : Int) : Lv6 w.heap.size (w.heap.size + 1) s l j s' l' j' ((w.alloc (.cells #[.int .i64 s, .int .i64 l, .int .i64 j] 26)).alloc (.cells #[.int .i64 s', .int .i64 l', .int .i64 j'] 26)) := by
  unfold Lv6
  refine ⟨?_, ?_, ?_, ?_, ?_, ?_, by simp; omega, by simp⟩ <;> simp [World.cell?_alloc_at, World.cell?_alloc_past, World.cell?_alloc_lt]
theorem lwhole (n : Int) (w : World) : Calls Tryd.prog 12 #[.int .i64 n] w (Gives (.agg #[.int .i64 n, .int .i64 1]) w) := by
  go_enter Tryd.func12, Tryd.ntmps12
  go_wp2
  refine bodyPost_ret (v := .agg #[.int .i64 n, .int .i64 1]) (by simp [results, Tryd.results12, go_sem, *, lt2, lt3, lt4, lt5, lt6]) rfl ⟨rfl, (by repeat (first | (with_reducible refine Below.drew ?_) | (with_reducible refine below_drewN ?_ _) | (with_reducible refine Below.alloc ?_ ?_ _) | (with_reducible refine Below.setCell ?_ ?_ _) | (with_reducible assumption) | (with_reducible exact Below.refl _ _) | omega | (simp <;> omega)))⟩
theorem lminus (n d : Int) (w : World) (h1 : -1000000000 ≤ n) (h2 : n ≤ 1000000000) : Calls Tryd.prog 22 #[.agg #[.int .i64 n, .int .i64 d]] w (Gives (.agg #[.int .i64 (-n), .int .i64 d]) w) := by
  go_enter Tryd.func22, Tryd.ntmps22
  go_wp2
  refine bodyPost_ret (v := .agg #[.int .i64 (-n), .int .i64 d]) (by simp [results, Tryd.results22, go_sem, *, lt2, lt3, lt4, lt5, lt6]) rfl ⟨rfl, (by repeat (first | (with_reducible refine Below.drew ?_) | (with_reducible refine below_drewN ?_ _) | (with_reducible refine Below.alloc ?_ ?_ _) | (with_reducible refine Below.setCell ?_ ?_ _) | (with_reducible assumption) | (with_reducible exact Below.refl _ _) | omega | (simp <;> omega)))⟩
set_option maxRecDepth 100000 in
set_option maxHeartbeats 2000000 in
theorem laddTo (a b c d : Int) (r : Ro) (h : addR a b c d = r) (hk : r.ok = true) (w : World) : Calls Tryd.prog 15 #[.agg #[.int .i64 a, .int .i64 b], .agg #[.int .i64 c, .int .i64 d], .bool true] w (Gives (.tuple #[.agg #[.int .i64 r.n, .int .i64 r.d], .bool true]) w) := by
  have hA := fun W => iRatAdd a b c d W
  rw [h] at hA
  unfold roV at hA
  obtain ⟨rn, rd, rk⟩ := r
  simp only at hA hk
  subst hk
  have HA := Lib.hid hA
  clear hA h
  go_enter Tryd.func15, Tryd.ntmps15
  go_wp2_with fail
  (with_reducible refine (HA.out _).mono ?_)
  rintro e w1 ⟨rfl, b1⟩
  have hz1 := b1.size
  obtain ⟨hc1, hf1⟩ := bcell b1
  have B1 : Below w.heap.size w w1 := Below.trans (by repeat (first | (with_reducible refine Below.drew ?_) | (with_reducible refine below_drewN ?_ _) | (with_reducible refine Below.alloc ?_ ?_ _) | (with_reducible refine Below.setCell ?_ ?_ _) | (with_reducible assumption) | (with_reducible exact Below.refl _ _) | omega | (simp <;> omega))) (b1.mono (by first | omega | (simp <;> omega)))
  (try simp at hz1)
  have hy1 : w.heap.size < w1.heap.size := by omega
  clear b1
  have kc1_0_2 : w1.cell? ⟨w.heap.size + 1 + 1, 0, none⟩ = some (.int .i64 0) := (hc1 (w.heap.size + 1 + 1) 0 (by first | omega | (simp <;> omega))).trans (by first | (simp; done) | (simp [*]; done) | (simp [*, World.cell?_alloc_at, World.cell?_alloc_past, World.cell?_alloc_lt, lt2, lt3, lt4]; done))
  have kc1_1_2 : w1.cell? ⟨w.heap.size + 1 + 1, 1, none⟩ = some (.int .i64 0) := (hc1 (w.heap.size + 1 + 1) 1 (by first | omega | (simp <;> omega))).trans (by first | (simp; done) | (simp [*]; done) | (simp [*, World.cell?_alloc_at, World.cell?_alloc_past, World.cell?_alloc_lt, lt2, lt3, lt4]; done))
  have kf1_0_2 : w1.frozen? ⟨w.heap.size + 1 + 1, 0, none⟩ = false := (hf1 (w.heap.size + 1 + 1) 0 (by first | omega | (simp <;> omega))).trans (by first | (simp; done) | (simp [*]; done) | (simp [*, World.frozen?_alloc_at, World.frozen?_alloc_past, lt2, lt3, lt4]; done))
  have kf1_1_2 : w1.frozen? ⟨w.heap.size + 1 + 1, 1, none⟩ = false := (hf1 (w.heap.size + 1 + 1) 1 (by first | omega | (simp <;> omega))).trans (by first | (simp; done) | (simp [*]; done) | (simp [*, World.frozen?_alloc_at, World.frozen?_alloc_past, lt2, lt3, lt4]; done))
  have hx1 : w.heap.size + 1 + 1 < w1.heap.size := by omega
  go_wp2
  refine bodyPost_ret (v := .tuple #[.agg #[.int .i64 rn, .int .i64 rd], .bool true]) (by simp [results, Tryd.results15, go_sem, *, lt2, lt3, lt4, lt5, lt6]) rfl ⟨rfl, (by repeat (first | (with_reducible refine Below.drew ?_) | (with_reducible refine below_drewN ?_ _) | (with_reducible refine Below.alloc ?_ ?_ _) | (with_reducible refine Below.setCell ?_ ?_ _) | (with_reducible assumption) | (with_reducible exact Below.refl _ _) | omega | (simp <;> omega)))⟩
theorem lv6_at (w : World) (s l j s' l' j' : Int) (t t' : TypeId) : Lv6 w.heap.size (w.heap.size + 1) s l j s' l' j' ((w.alloc (.cells #[.int .i64 s, .int .i64 l, .int .i64 j] t)).alloc (.cells #[.int .i64 s', .int .i64 l', .int .i64 j'] t')) := by
  unfold Lv6
  refine ⟨?_, ?_, ?_, ?_, ?_, ?_, by simp; omega, by simp⟩ <;> simp [World.cell?_alloc_at, World.cell?_alloc_past, World.cell?_alloc_lt]
/-- a row is kept where another row is marked -/
theorem own_apart {w w' : World} {base : Nat} {e : TypeId} {k : Nat} {v u : Value} {n : Nat} {cs : List Value} (h : w.ownsRow base e k v n cs) (hg : w.grownBy w' u.ownBlock) (hne : ∀ g, v.ownBlock = some g → u.ownBlock = some g → False) : w'.ownsRow base e k v n cs :=
  h.kept hg (by
    cases h0 : v.ownBlock with
    | none => exact .inl rfl
    | some g => exact .inr fun e => hne g h0 e.symm)
theorem splitOk_swap {s l j s' l' j' : Int} (h : splitOk s l j s' l' j' = true) : splitOk s' l' j' s l j = true := by
  have L := splitOk_pair h
  have ht := gd_tri L.ht
  unfold splitOk
  rw [L.a.ok, L.b.ok, decide_eq_true L.a.hj.2, decide_eq_true L.b.hj.2, ht]; rfl
theorem splitsOf_len (s l j s' l' j' : Int) : (splitsOf s l j s' l' j').length ≤ 19 := by
  unfold splitsOf
  split
  · next h => exact ((splitOk_pair h).pair.len_is).1
  · simp
theorem mk_bds {a b : Int} (h : Sm a b) : (-1000000000 ≤ (mkR a b).n ∧ (mkR a b).n ≤ 1000000000) ∧ (1 ≤ (mkR a b).d ∧ (mkR a b).d ≤ 1000000000) := by
  have := ratOk_true.1 (ok_of h)
  rw [mk_of h]
  exact ⟨this.2.1, this.1⟩
/-- bounds on a component's parts -/
theorem sp_bds {x y a c : Int} (P : Pair x y a c) {i : Nat} (hi : i < (splitL x y a c).length) :
    (-6 ≤ (splitL x y a c)[i].u ∧ (splitL x y a c)[i].u ≤ 6) ∧ (-6 ≤ (splitL x y a c)[i].l ∧ (splitL x y a c)[i].l ≤ 6) ∧ (-1000000000 ≤ (splitL x y a c)[i].p ∧ (splitL x y a c)[i].p ≤ 1000000000) ∧ (-1000000000 ≤ (splitL x y a c)[i].s ∧ (splitL x y a c)[i].s ≤ 1000000000) ∧ (1 ≤ (splitL x y a c)[i].q ∧ (splitL x y a c)[i].q ≤ 1000000000) ∧ (1 ≤ (splitL x y a c)[i].t ∧ (splitL x y a c)[i].t ≤ 1000000000) := by
  obtain ⟨e, he, h1, h2⟩ := P.get hi
  have hb := P.bd he
  have h3 := mk_bds (P.sm he)
  have h4 := mk_bds (P.st he).1
  rw [h2]
  exact ⟨hb.1, hb.2.1, h3.1, h4.1, h3.2, h4.2⟩
end Go.Proofs.YtpollgibgphipaaDoor.SplD
