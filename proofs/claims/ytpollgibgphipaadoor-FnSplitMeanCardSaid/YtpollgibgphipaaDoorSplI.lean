/-
  Contract of the program's SplitOf.
-/
import Derived.Test.YtpollgibgphipaaDoorSplIN
import Derived.Test.YtpollgibgphipaaDoorFacI
import Derived.Deep.DeepCutAuto
import Derived.Test.YtpollgibgphipaaDoorCgI
import Derived.Test.YtpollgibgphipaaDoorProjI
import Derived.Test.YtpollgibgphipaaDoorSix6
import Derived.Test.YtpollgibgphipaaDoorSplSN
import Derived.Maps.AppendAt
namespace Go.Proofs.YtpollgibgphipaaDoor.SplI
open Go.RowKit Go.Shelf Go.Proofs.YtpollgibgphipaaDoor.RatP Go.Proofs.YtpollgibgphipaaDoor.ChoP Go.Proofs.YtpollgibgphipaaDoor.Rat Go.Proofs.YtpollgibgphipaaDoor.SplitPlain Go.Proofs.YtpollgibgphipaaDoor.SplitP Go.Proofs.YtpollgibgphipaaDoor.SplitDef Go.Proofs.YtpollgibgphipaaDoor.Fac Go.Proofs.YtpollgibgphipaaDoor.Cg Go.Proofs.YtpollgibgphipaaDoor.CgI Go.Proofs.YtpollgibgphipaaDoor.FacI Go.Proofs.YtpollgibgphipaaDoor.ProjI Go.Proofs.YtpollgibgphipaaDoor.Spin Go.Proofs.YtpollgibgphipaaDoor.Row Go.Proofs.YtpollgibgphipaaDoor.Coupled Go.Proofs.YtpollgibgphipaaDoor.Later Go.Proofs.YtpollgibgphipaaDoor.Two Go.Proofs.YtpollgibgphipaaDoor.RegM Go.Proofs.YtpollgibgphipaaDoor.SplS
set_option linter.unusedVariables false
set_option linter.unusedSimpArgs false
attribute [local go_sem] Oper.semAt_some

/-- two blocks of three cells each -/
def Lv6 (b1 b2 : Nat) (s l j s' l' j' : Int) (W : World) : Prop :=
  W.cell? ⟨b1, 0, none⟩ = some (.int .i64 s) ∧ W.cell? ⟨b1, 1, none⟩ = some (.int .i64 l) ∧ W.cell? ⟨b1, 2, none⟩ = some (.int .i64 j) ∧ W.cell? ⟨b2, 0, none⟩ = some (.int .i64 s') ∧ W.cell? ⟨b2, 1, none⟩ = some (.int .i64 l') ∧ W.cell? ⟨b2, 2, none⟩ = some (.int .i64 j') ∧ b1 < W.heap.size ∧ b2 < W.heap.size
theorem Lv6.below {b1 b2 : Nat} {s l j s' l' j' : Int} {W W' : World} {B : Nat} (h : Lv6 b1 b2 s l j s' l' j' W) (hb : Below B W W') (h1 : b1 < B) (h2 : b2 < B) : Lv6 b1 b2 s l j s' l' j' W' :=
  ⟨(hb.cell (p := ⟨b1, 0, none⟩) h1).trans h.1, (hb.cell (p := ⟨b1, 1, none⟩) h1).trans h.2.1, (hb.cell (p := ⟨b1, 2, none⟩) h1).trans h.2.2.1, (hb.cell (p := ⟨b2, 0, none⟩) h2).trans h.2.2.2.1, (hb.cell (p := ⟨b2, 1, none⟩) h2).trans h.2.2.2.2.1, (hb.cell (p := ⟨b2, 2, none⟩) h2).trans h.2.2.2.2.2.1, Nat.lt_of_lt_of_le h.2.2.2.2.2.2.1 hb.size, Nat.lt_of_lt_of_le h.2.2.2.2.2.2.2 hb.size⟩
theorem Lv6.drew {b1 b2 : Nat} {s l j s' l' j' : Int} {W : World} (h : Lv6 b1 b2 s l j s' l' j' W) : Lv6 b1 b2 s l j s' l' j' W.drew := h
theorem Lv6.alloc {b1 b2 : Nat} {s l j s' l' j' : Int} {W : World} (h : Lv6 b1 b2 s l j s' l' j' W) (o : Obj) : Lv6 b1 b2 s l j s' l' j' (W.alloc o) := h.below ((Below.refl W.heap.size W).alloc (Nat.le_refl _) o) h.2.2.2.2.2.2.1 h.2.2.2.2.2.2.2
theorem Lv6.set {b1 b2 n : Nat} {s l j s' l' j' : Int} {W : World} (h : Lv6 b1 b2 s l j s' l' j' W) (p : Addr) (h1 : b1 < n) (h2 : b2 < n) (hp : n ≤ p.block) (u : Value) : Lv6 b1 b2 s l j s' l' j' (W.setCell p u) := h.below ((Below.refl n W).setCell hp u) h1 h2
theorem two_at {W : World} {n : Nat} (a b : Int) (t : TypeId) (h : W.heap.size = n) : Two (W.alloc (.cells #[.int .i64 a, .int .i64 b] t)) n a b := by
  subst h; exact Two.new W a b t
theorem wide_fn (f : FuncId) : Fence.wide.fn f := by simp [Fence.wide]
theorem with_act {P : Program} {c : Code} {Q : Exit → Act → World → Prop} {a : Act} {w : World} (h : ∀ A, A = a → c.wp P Q A w) : c.wp P Q a w := h a rfl
theorem with_actIn {F : Fence} {n : Nat} {P : Program} {c : Code} {Q : Exit → Act → World → Prop} {a : Act} {w : World} (h : ∀ A, A = a → c.wpIn F n P Q A w) : c.wpIn F n P Q a w := h a rfl
theorem ko_below {W W' : World} (h : Below W.heap.size W W') : KeepsOthers W W' := ⟨h.size, fun l o hl _ => (h.block l (Array.getElem?_eq_some_iff.1 hl).1).trans hl⟩
theorem boxed_below {W W' : World} {B n : Nat} {t : TypeId} {v : Value} (h : Boxed W B t v) (hb : Below n W W') (hB : B < n) : Boxed W' B t v := (hb.block B hB).trans h
/-- the row of components so far -/
def Hld (T : Nat) (W : World) (l : List Sp) : Prop := ∃ v, Boxed W T 29 v ∧ W.ownsRow T 40 6 v l.length (l.flatMap encSp)
theorem hld_own {β : Type} (T : Nat) (f : β → List Sp) : Own (fun (s : β) W => Hld T W (f s)) := fun s A B row hs hg hr => by
  obtain ⟨v, h1, h2⟩ := hs
  obtain ⟨v', a, b, _⟩ := holdsRow_own T T 29 40 6 (fun s => (f s).length) (fun s => (f s).flatMap encSp) (fun _ _ => True) s A B row ⟨v, h1, h2, trivial⟩ hg hr
  exact ⟨v', a, b⟩
def rowP (y : Int) (mk : Int → Int → Sp) (u : Int) (pre : List Int) : List Sp := (pre.filter (near u)).map fun l => mk u l
def rawP (y : Int) (mk : Int → Int → Sp) (pre : List Int) : List Sp := pre.flatMap fun u => rowP y mk u (proj y)
theorem rowP_yes {y : Int} {mk : Int → Int → Sp} {u l : Int} {pre : List Int} (h : near u l = true) : rowP y mk u (pre ++ [l]) = rowP y mk u pre ++ [mk u l] := by
  unfold rowP
  rw [List.filter_append, List.map_append]; simp [h]
theorem rowP_no {y : Int} {mk : Int → Int → Sp} {u l : Int} {pre : List Int} (h : near u l = false) : rowP y mk u (pre ++ [l]) = rowP y mk u pre := by
  unfold rowP
  rw [List.filter_append, List.map_append]; simp [h]
theorem rawP_succ (y : Int) (mk : Int → Int → Sp) (pre : List Int) (u : Int) : rawP y mk (pre ++ [u]) = rawP y mk pre ++ rowP y mk u (proj y) := by unfold rawP; rw [List.flatMap_append]; simp
theorem rowP_len (y : Int) (mk : Int → Int → Sp) (u : Int) (pre : List Int) : (rowP y mk u pre).length ≤ pre.length := by unfold rowP; rw [List.length_map]; exact List.length_filter_le _ _
theorem rawP_len (y : Int) (mk : Int → Int → Sp) (pre : List Int) (m : Nat) (hm : (proj y).length ≤ m) : (rawP y mk pre).length ≤ pre.length * m := by
  unfold rawP
  induction pre with
  | nil => simp
  | cons u pre ih =>
    rw [List.flatMap_cons, List.length_append, List.length_cons, Nat.add_mul]
    have := rowP_len y mk u (proj y)
    omega
theorem rawP_all (x y a c : Int) : rawP y (fun u l => spOf x y a c (u, l)) (proj x) = splitL x y a c := by
  unfold rawP rowP splitL comps
  rw [List.map_flatMap]
  simp only [List.map_map]
  rfl

theorem proj_bd {J : Nat} {u : Int} (h : u ∈ proj (J : Int)) : -(J : Int) ≤ u ∧ u ≤ (J : Int) := by
  unfold proj at h
  obtain ⟨k, hk, rfl⟩ := List.mem_map.1 h
  have := List.mem_range.1 hk
  simp only [Int.toNat_natCast] at this
  omega
theorem boxed_inj {W : World} {b : Nat} {t t' : TypeId} {v v' : Value} (h1 : Boxed W b t v) (h2 : Boxed W b t' v') : t' = t ∧ v' = v := by
  have e1 : W.heap[b]? = _ := h1
  have e2 : W.heap[b]? = _ := h2
  rw [e1] at e2
  injection e2 with e2
  injection e2 with e2 e3
  injection e2 with e2
  injection e2 with e2
  exact ⟨e3.symm, e2.symm⟩
/-- what a component is made of -/
theorem comp_facts {s l j s' l' j' u t : Int} (L : LvPair s l j s' l' j') (he : (u, t) ∈ comps j j') : ∃ shn shd stn std sg : Int, spOf j j' (gn s l j) (gn s' l' j') (u, t) = ⟨u, t, shn, shd, stn, std⟩ ∧
    (∀ W, Calls Tryd.prog 30 #[.agg #[.int .i64 (facR s l j).n, .int .i64 (facR s l j).d], .int .i64 u, .agg #[.int .i64 (facR s' l' j').n, .int .i64 (facR s' l' j').d], .int .i64 t] W (Gives (.tuple #[.agg #[.int .i64 shn, .int .i64 shd], .bool true]) W)) ∧
    (∀ W, Calls Tryd.prog 31 #[.int .i64 j', .int .i64 2, .int .i64 j, .int .i64 t, .int .i64 (u - t)] W (Gives (.tuple #[.agg #[.int .i64 sg, .int .i64 stn, .int .i64 std], .bool true]) W)) := by
  have C : Cg j j' u t := ⟨L.a.hj, L.b.hj, L.ht, he⟩
  have hb := C.bd
  obtain ⟨q1, q2, q3, q4, q5⟩ := L.half he
  have hk := L.pair.ok he
  have b4 := (ratOk_true.1 (ok_of q4)).2.1
  refine ⟨_, _, _, _, _, rfl, fun W => ?_, fun W => iClebsch j j' u t C W⟩
  exact iShift (facR s l j) (facR s' l' j') u t _ _ _ hb.1 hb.2.1 q1 q2 q5 (by rw [mk_of q3]) (by rw [mk_of q4]) hk.1 (by rw [mk_of q4]; exact b4) W

set_option maxRecDepth 100000 in
set_option maxHeartbeats 16000000 in
theorem iSplitOf_yes (s l j s' l' j' : Int) (w : World) (h : splitOk s l j s' l' j' = true) (hE : Errs w) :
    Calls Tryd.prog 9 #[.agg #[.int .i64 s, .int .i64 l, .int .i64 j], .agg #[.int .i64 s', .int .i64 l', .int .i64 j']] w (GivesSplits true (splitS s l j s' l' j') w) := by
  have L := splitOk_pair h
  obtain ⟨J, rfl⟩ := Int.eq_ofNat_of_zero_le L.a.hj.1
  obtain ⟨J', rfl⟩ := Int.eq_ofNat_of_zero_le L.b.hj.1
  generalize hjj : (J : Int) = j at *
  generalize hjj' : (J' : Int) = j' at *
  have HJJ := Lib.hid hjj
  have HJJ' := Lib.hid hjj'
  obtain ⟨i0, hi, hz0, hz1, hz2⟩ := info_parts infoSplit'
  have HI := Lib.hid hi
  have HZ0 := Lib.hid hz0
  have HZ1 := Lib.hid hz1
  have HZ2 := Lib.hid hz2
  have hV1 := fun W => iLevelValid s l j W
  have hV2 := fun W => iLevelValid s' l' j' W
  have hT := fun W => iSpinTriangle j' 2 j W
  rw [L.a.ok] at hV1
  rw [L.b.ok] at hV2
  rw [L.ht] at hT
  have HV1 := Lib.hid hV1
  have HV2 := Lib.hid hV2
  have HT := Lib.hid hT
  have hj := L.a.hj
  have hj' := L.b.hj
  have h3 : decide (6 < j) = false := decide_eq_false (by omega)
  have h4 : decide (6 < j') = false := decide_eq_false (by omega)
  have hlt : 1 < w.heap.size := by obtain ⟨_, _, _, h⟩ := hE; exact h
  have HF1 := Lib.hid (fun W (hB : Below w.heap.size w W) => iFacZ s l j L.a W (hE.below hB hlt))
  have HF2 := Lib.hid (fun W (hB : Below w.heap.size w W) => iFacZ s' l' j' L.b W (hE.below hB hlt))
  have HL := Lib.hid L
  obtain ⟨fr, hfr⟩ : ∃ r, r = facR s l j := ⟨_, rfl⟩
  obtain ⟨gr, hgr⟩ : ∃ r, r = facR s' l' j' := ⟨_, rfl⟩
  rw [← hfr] at HF1
  rw [← hgr] at HF2
  have HFR := Lib.hid hfr
  have HGR := Lib.hid hgr
  obtain ⟨fn, fd, fk⟩ := fr
  obtain ⟨gn', gd', gk⟩ := gr
  simp only at HF1 HF2
  clear hi hz0 hz1 hz2 hV1 hV2 hT L h hE hfr hgr hjj hjj'
  refine callsIn_wide.1 (callsIn_of_wp_marks (F := Fence.wide) (n := 12) Tryd.func9 rfl (wide_fn _) ?_ rfl)
  refine wpIn_wide.2 ?_
  simp only [Tryd.ntmps9, List.size_toArray, List.length_cons, List.length_nil, Nat.reduceAdd, Nat.reduceSub, Array.replicate_succ, Array.replicate_zero, List.push_toArray, List.append_toArray, List.nil_append, List.cons_append]
  go_wp2_with fail
  (with_reducible refine (HV1.out _).mono ?_)
  rintro e w1 ⟨rfl, b1⟩
  have hz1 := b1.size
  obtain ⟨hc1, hf1⟩ := bcell b1
  have B1 : Below w.heap.size w w1 := Below.trans (by repeat (first | (with_reducible refine Below.drew ?_) | (with_reducible refine below_drewN ?_ _) | (with_reducible refine Below.alloc ?_ ?_ _) | (with_reducible refine Below.setCell ?_ ?_ _) | (with_reducible assumption) | (with_reducible exact Below.refl _ _) | omega | (simp <;> omega))) (b1.mono (by first | omega | (simp <;> omega)))
  (try simp at hz1)
  have hy1 : w.heap.size < w1.heap.size := by omega
  clear b1
  have kc1_0_0 : w1.cell? ⟨w.heap.size, 0, none⟩ = some (.int .i64 s) := (hc1 (w.heap.size) 0 (by first | omega | (simp <;> omega))).trans (by first | (simp; done) | (simp [*]; done) | (simp [*, World.cell?_alloc_at, World.cell?_alloc_past, World.cell?_alloc_lt, lt2, lt3, lt4]; done))
  have kc1_1_0 : w1.cell? ⟨w.heap.size, 1, none⟩ = some (.int .i64 l) := (hc1 (w.heap.size) 1 (by first | omega | (simp <;> omega))).trans (by first | (simp; done) | (simp [*]; done) | (simp [*, World.cell?_alloc_at, World.cell?_alloc_past, World.cell?_alloc_lt, lt2, lt3, lt4]; done))
  have kc1_2_0 : w1.cell? ⟨w.heap.size, 2, none⟩ = some (.int .i64 j) := (hc1 (w.heap.size) 2 (by first | omega | (simp <;> omega))).trans (by first | (simp; done) | (simp [*]; done) | (simp [*, World.cell?_alloc_at, World.cell?_alloc_past, World.cell?_alloc_lt, lt2, lt3, lt4]; done))
  have kc1_0_1 : w1.cell? ⟨w.heap.size + 1, 0, none⟩ = some (.int .i64 s') := (hc1 (w.heap.size + 1) 0 (by first | omega | (simp <;> omega))).trans (by first | (simp; done) | (simp [*]; done) | (simp [*, World.cell?_alloc_at, World.cell?_alloc_past, World.cell?_alloc_lt, lt2, lt3, lt4]; done))
  have kc1_1_1 : w1.cell? ⟨w.heap.size + 1, 1, none⟩ = some (.int .i64 l') := (hc1 (w.heap.size + 1) 1 (by first | omega | (simp <;> omega))).trans (by first | (simp; done) | (simp [*]; done) | (simp [*, World.cell?_alloc_at, World.cell?_alloc_past, World.cell?_alloc_lt, lt2, lt3, lt4]; done))
  have kc1_2_1 : w1.cell? ⟨w.heap.size + 1, 2, none⟩ = some (.int .i64 j') := (hc1 (w.heap.size + 1) 2 (by first | omega | (simp <;> omega))).trans (by first | (simp; done) | (simp [*]; done) | (simp [*, World.cell?_alloc_at, World.cell?_alloc_past, World.cell?_alloc_lt, lt2, lt3, lt4]; done))
  have kc1_0_2 : w1.cell? ⟨w.heap.size + 1 + 1, 0, none⟩ = some (.slice none 0 0) := (hc1 (w.heap.size + 1 + 1) 0 (by first | omega | (simp <;> omega))).trans (by first | (simp; done) | (simp [*]; done) | (simp [*, World.cell?_alloc_at, World.cell?_alloc_past, World.cell?_alloc_lt, lt2, lt3, lt4]; done))
  have kf1_0_2 : w1.frozen? ⟨w.heap.size + 1 + 1, 0, none⟩ = false := (hf1 (w.heap.size + 1 + 1) 0 (by first | omega | (simp <;> omega))).trans (by first | (simp; done) | (simp [*]; done) | (simp [*, World.frozen?_alloc_at, World.frozen?_alloc_past, lt2, lt3, lt4]; done))
  have kc1_0_3 : w1.cell? ⟨w.heap.size + 1 + 1 + 1, 0, none⟩ = some (.bool false) := (hc1 (w.heap.size + 1 + 1 + 1) 0 (by first | omega | (simp <;> omega))).trans (by first | (simp; done) | (simp [*]; done) | (simp [*, World.cell?_alloc_at, World.cell?_alloc_past, World.cell?_alloc_lt, lt2, lt3, lt4]; done))
  have kf1_0_3 : w1.frozen? ⟨w.heap.size + 1 + 1 + 1, 0, none⟩ = false := (hf1 (w.heap.size + 1 + 1 + 1) 0 (by first | omega | (simp <;> omega))).trans (by first | (simp; done) | (simp [*]; done) | (simp [*, World.frozen?_alloc_at, World.frozen?_alloc_past, lt2, lt3, lt4]; done))
  have hx1 : w.heap.size + 1 < w1.heap.size := by omega
  have hx1' : w.heap.size + 1 + 1 < w1.heap.size := by omega
  have hx1'' : w.heap.size + 1 + 1 + 1 < w1.heap.size := by omega
  go_wp2_with fail
  (with_reducible refine (HV2.out _).mono ?_)
  rintro e w2 ⟨rfl, b2⟩
  have hz2 := b2.size
  obtain ⟨hc2, hf2⟩ := bcell b2
  have B2 : Below w.heap.size w w2 := Below.trans (by repeat (first | (with_reducible refine Below.drew ?_) | (with_reducible refine below_drewN ?_ _) | (with_reducible refine Below.alloc ?_ ?_ _) | (with_reducible refine Below.setCell ?_ ?_ _) | (with_reducible assumption) | (with_reducible exact Below.refl _ _) | omega | (simp <;> omega))) (b2.mono (by first | omega | (simp <;> omega)))
  (try simp at hz2)
  have hy2 : w.heap.size < w2.heap.size := by omega
  clear b2
  have kc2_0_0 : w2.cell? ⟨w.heap.size, 0, none⟩ = some (.int .i64 s) := (hc2 (w.heap.size) 0 (by first | omega | (simp <;> omega))).trans (by first | (simp; done) | (simp [*]; done) | (simp [*, World.cell?_alloc_at, World.cell?_alloc_past, World.cell?_alloc_lt, lt2, lt3, lt4]; done))
  have kc2_1_0 : w2.cell? ⟨w.heap.size, 1, none⟩ = some (.int .i64 l) := (hc2 (w.heap.size) 1 (by first | omega | (simp <;> omega))).trans (by first | (simp; done) | (simp [*]; done) | (simp [*, World.cell?_alloc_at, World.cell?_alloc_past, World.cell?_alloc_lt, lt2, lt3, lt4]; done))
  have kc2_2_0 : w2.cell? ⟨w.heap.size, 2, none⟩ = some (.int .i64 j) := (hc2 (w.heap.size) 2 (by first | omega | (simp <;> omega))).trans (by first | (simp; done) | (simp [*]; done) | (simp [*, World.cell?_alloc_at, World.cell?_alloc_past, World.cell?_alloc_lt, lt2, lt3, lt4]; done))
  have kc2_0_1 : w2.cell? ⟨w.heap.size + 1, 0, none⟩ = some (.int .i64 s') := (hc2 (w.heap.size + 1) 0 (by first | omega | (simp <;> omega))).trans (by first | (simp; done) | (simp [*]; done) | (simp [*, World.cell?_alloc_at, World.cell?_alloc_past, World.cell?_alloc_lt, lt2, lt3, lt4]; done))
  have kc2_1_1 : w2.cell? ⟨w.heap.size + 1, 1, none⟩ = some (.int .i64 l') := (hc2 (w.heap.size + 1) 1 (by first | omega | (simp <;> omega))).trans (by first | (simp; done) | (simp [*]; done) | (simp [*, World.cell?_alloc_at, World.cell?_alloc_past, World.cell?_alloc_lt, lt2, lt3, lt4]; done))
  have kc2_2_1 : w2.cell? ⟨w.heap.size + 1, 2, none⟩ = some (.int .i64 j') := (hc2 (w.heap.size + 1) 2 (by first | omega | (simp <;> omega))).trans (by first | (simp; done) | (simp [*]; done) | (simp [*, World.cell?_alloc_at, World.cell?_alloc_past, World.cell?_alloc_lt, lt2, lt3, lt4]; done))
  have kc2_0_2 : w2.cell? ⟨w.heap.size + 1 + 1, 0, none⟩ = some (.slice none 0 0) := (hc2 (w.heap.size + 1 + 1) 0 (by first | omega | (simp <;> omega))).trans (by first | (simp; done) | (simp [*]; done) | (simp [*, World.cell?_alloc_at, World.cell?_alloc_past, World.cell?_alloc_lt, lt2, lt3, lt4]; done))
  have kf2_0_2 : w2.frozen? ⟨w.heap.size + 1 + 1, 0, none⟩ = false := (hf2 (w.heap.size + 1 + 1) 0 (by first | omega | (simp <;> omega))).trans (by first | (simp; done) | (simp [*]; done) | (simp [*, World.frozen?_alloc_at, World.frozen?_alloc_past, lt2, lt3, lt4]; done))
  have kc2_0_3 : w2.cell? ⟨w.heap.size + 1 + 1 + 1, 0, none⟩ = some (.bool false) := (hc2 (w.heap.size + 1 + 1 + 1) 0 (by first | omega | (simp <;> omega))).trans (by first | (simp; done) | (simp [*]; done) | (simp [*, World.cell?_alloc_at, World.cell?_alloc_past, World.cell?_alloc_lt, lt2, lt3, lt4]; done))
  have kf2_0_3 : w2.frozen? ⟨w.heap.size + 1 + 1 + 1, 0, none⟩ = false := (hf2 (w.heap.size + 1 + 1 + 1) 0 (by first | omega | (simp <;> omega))).trans (by first | (simp; done) | (simp [*]; done) | (simp [*, World.frozen?_alloc_at, World.frozen?_alloc_past, lt2, lt3, lt4]; done))
  have hx2 : w.heap.size + 1 < w2.heap.size := by omega
  have hx2' : w.heap.size + 1 + 1 < w2.heap.size := by omega
  have hx2'' : w.heap.size + 1 + 1 + 1 < w2.heap.size := by omega
  go_wp2_with fail
  (with_reducible refine (HT.out _).mono ?_)
  rintro e w' ⟨rfl, rfl⟩
  have HX := Lib.hid (And.intro kc2_0_0 (And.intro kc2_1_0 kc2_2_0))
  have HY := Lib.hid (And.intro kc2_0_1 (And.intro kc2_1_1 kc2_2_1))
  have HRL := Lib.hid (And.intro kc2_0_2 kf2_0_2)
  have HRO := Lib.hid (And.intro kc2_0_3 kf2_0_3)
  have HB2 := Lib.hid B2
  have x0 := kc2_0_0
  have x1 := kc2_1_0
  have x2 := kc2_2_0
  have y0 := kc2_0_1
  have y1 := kc2_1_1
  have y2 := kc2_2_1
  clear kc1_0_0 kc1_1_0 kc1_2_0 kc1_0_1 kc1_1_1 kc1_2_1 kc1_0_2 kf1_0_2 kc1_0_3 kf1_0_3 kc2_0_0 kc2_1_0 kc2_2_0 kc2_0_1 kc2_1_1 kc2_2_1 kc2_0_2 kf2_0_2 kc2_0_3 kf2_0_3 hc1 hf1 hc2 hf2 hz1 hz2 hy1 hx1 hx1' hx1'' B1 HV1 HV2 HT
  go_upto_region 3 with fail
  obtain ⟨wr, rfl⟩ : ∃ wr : World, wr = w2 := ⟨_, rfl⟩
  go_cut [6, 7] from 41 to 44 (fun s6 s7 wx => ∃ T6 T7 : Nat, s6 = .pointer (some ⟨T6, 0, none⟩) ∧ s7 = .pointer (some ⟨T7, 0, none⟩) ∧ Two wx T6 fn fd ∧ Two wx T7 gn' gd' ∧ wr.heap.size ≤ T6 ∧ wr.heap.size ≤ T7 ∧ Below wr.heap.size wr wx)
  case first =>
    have HG1 := Lib.hid (fun W (hB : Below wr.heap.size wr W) => HF1.out W (HB2.out.trans (hB.mono HB2.out.size)))
    have HG2 := Lib.hid (fun W (hB : Below wr.heap.size wr W) => HF2.out W (HB2.out.trans (hB.mono HB2.out.size)))
    clear HF1 HF2 HX HY HRL HRO HB2 HI HZ0 HZ1 HZ2 HL HFR HGR hj hj' h3 h4 hlt hx2' hx2'' HJJ HJJ'
    have LV0 : Lv6 w.heap.size (w.heap.size + 1) s l j s' l' j' wr := ⟨x0, x1, x2, y0, y1, y2, hy2, hx2⟩
    clear x0 x1 x2 y0 y1 y2
    go_region_held3 (fun w' => w'.cell? ⟨w.heap.size, 0, none⟩ = some (.int .i64 s) ∧ w'.cell? ⟨w.heap.size, 1, none⟩ = some (.int .i64 l) ∧ w'.cell? ⟨w.heap.size, 2, none⟩ = some (.int .i64 j) ∧ w'.cell? ⟨w.heap.size + 1, 0, none⟩ = some (.int .i64 s') ∧ w'.cell? ⟨w.heap.size + 1, 1, none⟩ = some (.int .i64 l') ∧ w'.cell? ⟨w.heap.size + 1, 2, none⟩ = some (.int .i64 j') ∧ w.heap.size < w'.heap.size ∧ w.heap.size + 1 < w'.heap.size)
      (first | (refine (?_ : Lv6 w.heap.size (w.heap.size + 1) s l j s' l' j' _); (repeat (first | (with_reducible assumption) | (with_reducible refine Lv6.drew ?_) | (with_reducible refine Lv6.alloc ?_ _) | (with_reducible refine Lv6.set ?_ _ hy2 hx2 (by first | omega | (simp <;> omega)) _)))))
      ((go_at_call 27; first | ((with_reducible refine (HG1.out _ ?_).mono ?_); (· exact (by repeat (first | (with_reducible refine Below.drew ?_) | (with_reducible refine below_drewN ?_ _) | (with_reducible refine Below.alloc ?_ ?_ _) | (with_reducible refine Below.setCell ?_ ?_ _) | (with_reducible assumption) | (with_reducible exact Below.refl _ _) | omega | (simp <;> omega)))); rintro e wq1 ⟨rfl, bq1⟩; have BQ1 : Below wr.heap.size wr wq1 := Below.trans (by repeat (first | (with_reducible refine Below.drew ?_) | (with_reducible refine below_drewN ?_ _) | (with_reducible refine Below.alloc ?_ ?_ _) | (with_reducible refine Below.setCell ?_ ?_ _) | (with_reducible assumption) | (with_reducible exact Below.refl _ _) | omega | (simp <;> omega))) (bq1.mono (by first | omega | (simp <;> omega))); have hq1 := BQ1.size; have hr1 := bq1.size; (try simp at hr1); have LV1 := LV0.below BQ1 hy2 hx2; (try (have TB1_0 : Two wq1 (wr.heap.size) 0 0 := (by first | ((repeat (first | (with_reducible assumption) | (with_reducible exact Two.new _ _ _ _) | (with_reducible exact two_new1 _ _ _ _ _) | (with_reducible refine Two.put (x := 0) (y := 0) ?_ _ _) | (with_reducible refine Two.drew ?_) | (with_reducible refine Two.alloc ?_ _) | (with_reducible refine two_below bq1 ?_) | (with_reducible refine two_below bq2 ?_) | (with_reducible refine Two.set ?_ (by first | omega | (simp <;> omega)) _))); done) | fail); have TH1_0 := Lib.hid TB1_0; obtain ⟨tc1_0, td1_0, tf1_0, tg1_0, tl1_0⟩ := TB1_0; have TB1_0 := TH1_0.out)); (try (have TB1_1 : Two wq1 (wr.heap.size + 1) 0 0 := (by first | ((repeat (first | (with_reducible assumption) | (with_reducible exact Two.new _ _ _ _) | (with_reducible exact two_new1 _ _ _ _ _) | (with_reducible refine Two.put (x := 0) (y := 0) ?_ _ _) | (with_reducible refine Two.drew ?_) | (with_reducible refine Two.alloc ?_ _) | (with_reducible refine two_below bq1 ?_) | (with_reducible refine two_below bq2 ?_) | (with_reducible refine Two.set ?_ (by first | omega | (simp <;> omega)) _))); done) | fail); have TH1_1 := Lib.hid TB1_1; obtain ⟨tc1_1, td1_1, tf1_1, tg1_1, tl1_1⟩ := TB1_1; have TB1_1 := TH1_1.out)); skip) | ((with_reducible refine (HG2.out _ ?_).mono ?_); (· exact (by repeat (first | (with_reducible refine Below.drew ?_) | (with_reducible refine below_drewN ?_ _) | (with_reducible refine Below.alloc ?_ ?_ _) | (with_reducible refine Below.setCell ?_ ?_ _) | (with_reducible assumption) | (with_reducible exact Below.refl _ _) | omega | (simp <;> omega)))); rintro e wq2 ⟨rfl, bq2⟩; have BQ2 : Below wr.heap.size wr wq2 := Below.trans (by repeat (first | (with_reducible refine Below.drew ?_) | (with_reducible refine below_drewN ?_ _) | (with_reducible refine Below.alloc ?_ ?_ _) | (with_reducible refine Below.setCell ?_ ?_ _) | (with_reducible assumption) | (with_reducible exact Below.refl _ _) | omega | (simp <;> omega))) (bq2.mono (by first | omega | (simp <;> omega))); have hq2 := BQ2.size; have hr2 := bq2.size; (try simp at hr2); have LV2 := LV0.below BQ2 hy2 hx2; (try (have TB2_0 : Two wq2 (wr.heap.size) 0 0 := (by first | ((repeat (first | (with_reducible assumption) | (with_reducible exact Two.new _ _ _ _) | (with_reducible exact two_new1 _ _ _ _ _) | (with_reducible refine Two.put (x := 0) (y := 0) ?_ _ _) | (with_reducible refine Two.drew ?_) | (with_reducible refine Two.alloc ?_ _) | (with_reducible refine two_below bq1 ?_) | (with_reducible refine two_below bq2 ?_) | (with_reducible refine Two.set ?_ (by first | omega | (simp <;> omega)) _))); done) | fail); have TH2_0 := Lib.hid TB2_0; obtain ⟨tc2_0, td2_0, tf2_0, tg2_0, tl2_0⟩ := TB2_0; have TB2_0 := TH2_0.out)); (try (have TB2_1 : Two wq2 (wr.heap.size + 1) 0 0 := (by first | ((repeat (first | (with_reducible assumption) | (with_reducible exact Two.new _ _ _ _) | (with_reducible exact two_new1 _ _ _ _ _) | (with_reducible refine Two.put (x := 0) (y := 0) ?_ _ _) | (with_reducible refine Two.drew ?_) | (with_reducible refine Two.alloc ?_ _) | (with_reducible refine two_below bq1 ?_) | (with_reducible refine two_below bq2 ?_) | (with_reducible refine Two.set ?_ (by first | omega | (simp <;> omega)) _))); done) | fail); have TH2_1 := Lib.hid TB2_1; obtain ⟨tc2_1, td2_1, tf2_1, tg2_1, tl2_1⟩ := TB2_1; have TB2_1 := TH2_1.out)); (try (have TB2_2 : Two wq2 (wq1.heap.size) 0 0 := (by first | ((repeat (first | (with_reducible assumption) | (with_reducible exact Two.new _ _ _ _) | (with_reducible exact two_new1 _ _ _ _ _) | (with_reducible refine Two.put (x := 0) (y := 0) ?_ _ _) | (with_reducible refine Two.drew ?_) | (with_reducible refine Two.alloc ?_ _) | (with_reducible refine two_below bq1 ?_) | (with_reducible refine two_below bq2 ?_) | (with_reducible refine Two.set ?_ (by first | omega | (simp <;> omega)) _))); done) | fail); have TH2_2 := Lib.hid TB2_2; obtain ⟨tc2_2, td2_2, tf2_2, tg2_2, tl2_2⟩ := TB2_2; have TB2_2 := TH2_2.out)); (try (have TB2_3 : Two wq2 (wq1.heap.size + 1) 0 0 := (by first | ((repeat (first | (with_reducible assumption) | (with_reducible exact Two.new _ _ _ _) | (with_reducible exact two_new1 _ _ _ _ _) | (with_reducible refine Two.put (x := 0) (y := 0) ?_ _ _) | (with_reducible refine Two.drew ?_) | (with_reducible refine Two.alloc ?_ _) | (with_reducible refine two_below bq1 ?_) | (with_reducible refine two_below bq2 ?_) | (with_reducible refine Two.set ?_ (by first | omega | (simp <;> omega)) _))); done) | fail); have TH2_3 := Lib.hid TB2_3; obtain ⟨tc2_3, td2_3, tf2_3, tg2_3, tl2_3⟩ := TB2_3; have TB2_3 := TH2_3.out)); skip)))
    all_goals go_wp2_with fail
    all_goals go_meet
    all_goals (refine ⟨_, _, rfl, rfl, ?_, ?_, ?_, ?_, ?_⟩)
    all_goals first | ((repeat (first | (with_reducible refine Below.drew ?_) | (with_reducible refine below_drewN ?_ _) | (with_reducible refine Below.alloc ?_ ?_ _) | (with_reducible refine Below.setCell ?_ ?_ _) | (with_reducible assumption) | (with_reducible exact Below.refl _ _) | omega | (simp <;> omega))); done) | ((repeat (first | (with_reducible assumption) | (with_reducible exact Two.new _ _ _ _) | (with_reducible exact two_new1 _ _ _ _ _) | (with_reducible refine Two.put (x := 0) (y := 0) ?_ _ _) | (with_reducible refine Two.drew ?_) | ((with_reducible refine two_at _ _ _ ?_); (simp; done)) | (with_reducible refine Two.alloc ?_ _) | (with_reducible refine two_below bq1 ?_) | (with_reducible refine two_below bq2 ?_) | (with_reducible refine Two.set ?_ (by first | omega | (simp <;> omega)) _))); done) | (trace_state; fail)
  case rest =>
    obtain ⟨T6, T7, rfl, rfl, TF, TG, hT6, hT7, b3⟩ := hcut
    obtain ⟨w3, rfl⟩ : ∃ x : World, x = wc := ⟨_, rfl⟩
    have B3 := HB2.out.trans (b3.mono HB2.out.size)
    have hs3 := b3.size
    have HX3 := Lib.hid (And.intro ((b3.cell (p := ⟨w.heap.size, 0, none⟩) hy2).trans HX.out.1) (And.intro ((b3.cell (p := ⟨w.heap.size, 1, none⟩) hy2).trans HX.out.2.1) ((b3.cell (p := ⟨w.heap.size, 2, none⟩) hy2).trans HX.out.2.2)))
    have HY3 := Lib.hid (And.intro ((b3.cell (p := ⟨w.heap.size + 1, 0, none⟩) hx2).trans HY.out.1) (And.intro ((b3.cell (p := ⟨w.heap.size + 1, 1, none⟩) hx2).trans HY.out.2.1) ((b3.cell (p := ⟨w.heap.size + 1, 2, none⟩) hx2).trans HY.out.2.2)))
    have HRL3 := Lib.hid (And.intro ((b3.cell (p := ⟨w.heap.size + 1 + 1, 0, none⟩) hx2').trans HRL.out.1) ((b3.frozen (p := ⟨w.heap.size + 1 + 1, 0, none⟩) hx2').trans HRL.out.2))
    have HRO3 := Lib.hid (And.intro ((b3.cell (p := ⟨w.heap.size + 1 + 1 + 1, 0, none⟩) hx2'').trans HRO.out.1) ((b3.frozen (p := ⟨w.heap.size + 1 + 1 + 1, 0, none⟩) hx2'').trans HRO.out.2))
    have HTF := Lib.hid TF
    have HTG := Lib.hid TG
    have hT6' := TF.2.2.2.2
    have hT7' := TG.2.2.2.2
    have HB3 := Lib.hid B3
    have hb0 : w.heap.size + 1 + 1 + 1 < w3.heap.size := by omega
    have z2 : w3.cell? ⟨w.heap.size, 2, none⟩ = some (.int .i64 j) := HX3.out.2.2
    have hb1 : w.heap.size < w3.heap.size := by omega
    clear TF TG b3 B3 HX HY HRL HRO HB2 hy2 hx2 hx2' hx2'' x0 x1 x2 y0 y1 y2 HF1 HF2 hT6 hT7 hs3
    go_wp2_with fail
    (with_reducible refine (callsIn_wide.1 (proj_in Fence.wide 11 (wide_fn _) rfl j _)).mono ?_)
    rintro e w4 ⟨rfl, rfl⟩
    go_wp2_with fail
    generalize hW0 : (w3.alloc (.cells #[.slice none 0 0] 29)).alloc (.cells #[.int .i64 j] 56) = W0
    have bL : Boxed W0 w3.heap.size 29 (.slice none 0 0) := by rw [← hW0]; exact (Boxed.new w3 _ _).alloc _
    have bJ : Boxed W0 (w3.heap.size + 1) 56 (.int .i64 j) := by
      rw [← hW0]
      have h := Boxed.new (w3.alloc (.cells #[.slice none 0 0] 29)) 56 (.int .i64 j)
      simpa using h
    have hsz : W0.heap.size = w3.heap.size + 2 := by rw [← hW0]; simp
    have B0 : Below w3.heap.size w3 W0 := by rw [← hW0]; exact (by repeat (first | (with_reducible refine Below.drew ?_) | (with_reducible refine below_drewN ?_ _) | (with_reducible refine Below.alloc ?_ ?_ _) | (with_reducible refine Below.setCell ?_ ?_ _) | (with_reducible assumption) | (with_reducible exact Below.refl _ _) | omega | (simp <;> omega)))
    obtain ⟨T8, hT8⟩ : ∃ T8, T8 = w3.heap.size := ⟨_, rfl⟩
    (try simp only [World.size_alloc])
    rw [← hT8] at bL bJ hsz hT6' hT7' hb0 hb1 ⊢
    have HB0 := Lib.hid B0
    have HT8 := Lib.hid hT8
    have HSZ := Lib.hid hsz
    clear hW0 z2 B0
    have HX0 := Lib.hid (fun (W : World) (hB : Below T8 W0 W) => And.intro ((hB.cell (p := ⟨w.heap.size, 2, none⟩) hb1).trans ((HB0.out.cell (p := ⟨w.heap.size, 2, none⟩) (by rw [← HT8.out]; exact hb1)).trans HX3.out.2.2)) ((hB.cell (p := ⟨w.heap.size + 1, 2, none⟩) (show w.heap.size + 1 < T8 by omega)).trans ((HB0.out.cell (p := ⟨w.heap.size + 1, 2, none⟩) (show w.heap.size + 1 < w3.heap.size by omega)).trans HY3.out.2.2)))
    have HTT := Lib.hid (fun (W : World) (hB : Below T8 W0 W) => And.intro ((HTF.out.below HB0.out (by rw [← HT8.out]; exact hT6')).below hB hT6') ((HTG.out.below HB0.out (by rw [← HT8.out]; exact hT7')).below hB hT7'))
    have HRES := Lib.hid (fun (W : World) (hB : Below T8 W0 W) => And.intro (And.intro ((hB.cell (p := ⟨w.heap.size + 1 + 1, 0, none⟩) (show w.heap.size + 1 + 1 < T8 by omega)).trans ((HB0.out.cell (p := ⟨w.heap.size + 1 + 1, 0, none⟩) (show w.heap.size + 1 + 1 < w3.heap.size by omega)).trans HRL3.out.1)) ((hB.frozen (p := ⟨w.heap.size + 1 + 1, 0, none⟩) (show w.heap.size + 1 + 1 < T8 by omega)).trans ((HB0.out.frozen (p := ⟨w.heap.size + 1 + 1, 0, none⟩) (show w.heap.size + 1 + 1 < w3.heap.size by omega)).trans HRL3.out.2))) (And.intro ((hB.cell (p := ⟨w.heap.size + 1 + 1 + 1, 0, none⟩) (show w.heap.size + 1 + 1 + 1 < T8 by omega)).trans ((HB0.out.cell (p := ⟨w.heap.size + 1 + 1 + 1, 0, none⟩) (show w.heap.size + 1 + 1 + 1 < w3.heap.size by omega)).trans HRO3.out.1)) ((hB.frozen (p := ⟨w.heap.size + 1 + 1 + 1, 0, none⟩) (show w.heap.size + 1 + 1 + 1 < T8 by omega)).trans ((HB0.out.frozen (p := ⟨w.heap.size + 1 + 1 + 1, 0, none⟩) (show w.heap.size + 1 + 1 + 1 < w3.heap.size by omega)).trans HRO3.out.2))))
    have HBW := Lib.hid (HB3.out.trans (HB0.out.mono HB3.out.size))
    clear HX3 HY3 HRL3 HRO3 HTF HTG HB3 HB0 hT8
    obtain ⟨mk, hmk⟩ : ∃ mk : Int → Int → Sp, mk = fun u t => spOf j j' (gn s l j) (gn s' l' j') (u, t) := ⟨_, rfl⟩
    have HMK := Lib.hid hmk
    clear hmk
    refine with_act ?_
    intro A hA
    have hwT : w.heap.size ≤ T8 := by omega
    have hszT : T8 ≤ W0.heap.size := by omega
    refine wpIn_wide.1 (wpIn_rangeFunc_ownH (F := Fence.wide) (n := 12) rfl (by omega) (gf := 47) (lb := #[.pointer (some ⟨T8 + 1, 0, none⟩)]) (by rw [hA]; rfl) (wide_fn _) (enters_of Tryd.func47 (by kernel_rfl) rfl)
      (proj_stops Fence.wide (12 - 1) (wide_fn _) rfl (by omega) (T8 + 1) T8 J (by have := HJJ.out; omega) W0 (by rw [HJJ.out]; exact bJ)) KB_t (KB_b hszT) (Below.refl _ _) (fun _ => rfl)
      (fun pre W => (Hld T8 W (rawP j' mk (pre.map (·.1))) ∧ Boxed W (T8 + 1) 56 (.int .i64 j)) ∧ Below T8 W0 W)
      (fun _ _ _ => False)
      (OwnFrom.and (OwnFrom.and (Own.from (hld_own T8 _) _) (Own.from (boxed_own _ _ (fun _ => _)) _)) (ownFrom_below hszT hszT))
      (fun _ _ _ _ _ hs _ _ => hs)
      ⟨⟨⟨_, bL, World.ownsRow_nil _ _ _ _⟩, bJ⟩, Below.refl _ _⟩
      (fun x a' W => ∃ Bx, T8 + 1 < Bx ∧ Boxed W Bx 3 (.int .i64 x.1) ∧ a' = { tmps := (A.tmps.setIfInBounds 48 (.int .i64 x.1)).setIfInBounds 9 (.pointer (some ⟨Bx, 0, none⟩)), defers := [] })
      (fun x a' _ X Y row hs hg hr => by obtain ⟨Bx, e1, e2, e3⟩ := hs; exact ⟨Bx, e1, boxed_own Bx 3 (fun (_ : Unit) => Value.int .i64 x.1) () X Y row e2 hg (fun r e => (hr r e).2), e3⟩)
      ?assign ?body ?done ?stop)
    case assign =>
      rintro lp pre x W K ⟨⟨⟨v, bL1, hrow⟩, bJ1⟩, hB1⟩ hK
      rw [hA] at hK ⊢
      simp only [List.setIfInBounds_toArray, List.set_cons_zero, List.set_cons_succ] at hK
      have hlt := bJ1.lt
      gi_wp2
      exact hK _ _ ((KeepsOthers.alloc _ _).from _) ⟨(Below.refl T8 W).alloc (by omega) _, fun t v hb => hb.alloc _⟩ ⟨⟨⟨v, bL1.alloc _, hrow.alloc _⟩, bJ1.alloc _⟩, hB1.alloc (by omega) _⟩ ⟨W.heap.size, hlt, Boxed.new W _ _, rfl⟩
    case body =>
      rintro lp pre x a' W hl ⟨r, hr⟩ ⟨⟨hH1, bJ1⟩, hB1⟩ ⟨Bx, hBx, bX, rfl⟩ hlt1
      rw [hA]
      simp only [List.setIfInBounds_toArray, List.set_cons_zero, List.set_cons_succ]
      have cy2 := (HX0.out W hB1).2
      have hsW := hB1.size
      gi_wp2_with (refine ⟨wide_fn _, ?_⟩; gi_at_call 28; refine (CallsIn.inRound lp (proj_in Fence.wide (12 - 1 - 1 - 1) (wide_fn _) rfl _ _)).mono ?_; rintro e w' ⟨rfl, rfl⟩)
      refine with_actIn ?_
      intro A2 hA2
      have bN := Boxed.new W 56 (.int .i64 j')
      have hr' : (W.alloc (.cells #[.int .i64 j'] 56)).heap[lp]? = some (.loop r) := (Below.heap_alloc W _ lp (Array.getElem?_eq_some_iff.1 hr).1).trans hr
      obtain ⟨v1, bL1, hrow1⟩ := hH1
      have hT8W : T8 ≤ W.heap.size := by omega
      refine wpIn_rangeFunc_ownN (l₀ := lp) (r₀ := r) rfl hr' (by omega) (gf := 47) (lb := #[.pointer (some ⟨W.heap.size, 0, none⟩)]) (by rw [hA2]; rfl) (wide_fn 47) (enters_of Tryd.func47 (by kernel_rfl) rfl)
        ((proj_stops Fence.wide (12 - 1 - 1 - 1) (wide_fn _) rfl (by omega) W.heap.size T8 J' (by have := HJJ'.out; omega) _ (by rw [HJJ'.out]; exact bN)).inRound lp) KB_t (KB_b (by simp; omega)) (Below.refl _ _) (fun _ => rfl)
        (fun pre' W' => ((Hld T8 W' (rawP j' mk (pre.map (·.1)) ++ rowP j' mk x.1 (pre'.map (·.1))) ∧ Boxed W' Bx 3 (.int .i64 x.1)) ∧ (Boxed W' (T8 + 1) 56 (.int .i64 j) ∧ Boxed W' W.heap.size 56 (.int .i64 j'))) ∧ (Below T8 W W' ∧ KeepsFrom W0.heap.size W W'))
        (fun _ _ _ => False)
        (OwnFrom.and (OwnFrom.and (OwnFrom.and (Own.from (hld_own T8 _) _) (Own.from (boxed_own _ _ (fun _ => _)) _)) (OwnFrom.and (Own.from (boxed_own _ _ (fun _ => _)) _) (Own.from (boxed_own _ _ (fun _ => _)) _))) (OwnFrom.and (ownFrom_below hT8W (by simp; omega)) (ownFrom_keepsFrom (by simp))))
        (fun _ _ _ _ _ hs _ _ => hs)
        ⟨⟨⟨⟨v1, bL1.alloc _, by rw [show rowP j' mk x.1 (([] : List (PJ J')).map (·.1)) = [] from rfl, List.append_nil]; exact hrow1.alloc _⟩, bX.alloc _⟩, bJ1.alloc _, bN⟩, (Below.refl _ W).alloc hT8W _, (KeepsOthers.alloc _ _).from _⟩
        (fun y a'' _ => a'' = { tmps := (A2.tmps.setIfInBounds 52 (.int .i64 y.1)).setIfInBounds 10 (.int .i64 y.1), defers := [] })
        (fun _ _ _ _ _ _ hs _ _ => hs)
        ?assign2 ?body2 ?done2 ?stop2
      case assign2 =>
        rintro l2 pre' y W' K hi hK
        rw [hA2] at hK ⊢
        simp only [List.setIfInBounds_toArray, List.set_cons_zero, List.set_cons_succ] at hK
        gi_wp2
        exact hK _ _ (KeepsFrom.refl _ _) ⟨Below.refl _ _, fun _ _ h => h⟩ hi rfl
      case body2 =>
        rintro l2 pre' y a'' W' hl2 hr2 ⟨⟨⟨⟨v2, bL2, hrow2⟩, bX2⟩, bJ2, bN2⟩, hBW, hKF⟩ rfl hlt2
        rw [hA2]
        simp only [List.setIfInBounds_toArray, List.set_cons_zero, List.set_cons_succ]
        have hBT : Below T8 W0 W' := hB1.trans hBW
        have cX := bX2.cell
        have hu := proj_bd x.2
        have ht := proj_bd y.2
        have hJ6 := HJJ.out
        have hJ6' := HJJ'.out
        have hux : -6 ≤ x.1 ∧ x.1 ≤ 6 := by omega
        have hty : -6 ≤ y.1 ∧ y.1 ≤ 6 := by omega
        obtain ⟨hux1, hux2⟩ := hux
        obtain ⟨hty1, hty2⟩ := hty
        have HAB := Lib.hid (fun W => iabs (x.1 - y.1) W (by omega) (by omega))
        have HNR := Lib.hid (abs_near (u := x.1) (l := y.1))
        have hmx : x.1 ∈ proj j := by rw [← hJ6]; exact x.2
        have hmy : y.1 ∈ proj j' := by rw [← hJ6']; exact y.2
        have hmxy := Lib.hid (fun h => mem_comps hmx hmy h)
        clear hu ht hJ6 hJ6' hmx hmy
        obtain ⟨⟨f0, f1, _, _, _⟩, g0, g1, _, _, _⟩ := HTT.out W' hBT
        obtain ⟨cx2, cy2'⟩ := HX0.out W' hBT
        obtain ⟨a2, c2, rfl⟩ := slice_form hrow2
        have cL := bL2.cell
        have fL := bL2.frozen
        have hln : T8 ≤ W'.heap.size := by have := hBT.size; omega
        generalize absI (x.1 - y.1) = ab at *
        by_cases hnear : ab ≤ 2
        · have hnr : near x.1 y.1 = true := by rw [HNR.out]; exact decide_eq_true hnear
          have HST := Lib.hid (rowP_yes (y := j') (mk := mk) (pre := pre'.map (·.1)) hnr)
          obtain ⟨shn, shd, stn, std, sg, hsp, hSH, hCL⟩ := comp_facts HL.out (hmxy.out hnr)
          have hmkv : mk x.1 y.1 = ⟨x.1, y.1, shn, shd, stn, std⟩ := by rw [HMK.out]; exact hsp
          rw [← HFR.out, ← HGR.out] at hSH
          simp only at hSH
          have HSH := Lib.hid hSH
          have HCL := Lib.hid hCL
          have hfar : ¬ 2 < ab := by omega
          have HMV := Lib.hid hmkv
          have HBW2 := Lib.hid hBW
          have HKF := Lib.hid hKF
          have HROW := Lib.hid hrow2
          have HBN2 := Lib.hid bN2
          have hsN : W.heap.size < W'.heap.size := bN2.lt
          have hsJ : T8 + 1 < W'.heap.size := bJ2.lt
          have hsB : Bx < W'.heap.size := bX2.lt
          have hsL : T8 < W'.heap.size := bL2.lt
          obtain ⟨Pl, hPl⟩ : ∃ Pl, Pl = rawP j' mk (pre.map (·.1)) ++ rowP j' mk x.1 (pre'.map (·.1)) := ⟨_, rfl⟩
          have HPL := Lib.hid hPl
          rw [← hPl] at hrow2 HROW bL2 cL
          have hlen : Pl.length ≤ 1000 := by
            have e1 := rawP_len j' mk (pre.map (·.1)) 7 (by have := proj_len hj'.1; omega)
            have e2 := rowP_len j' mk x.1 (pre'.map (·.1))
            have e3 := HJJ.out
            have e4 := HJJ'.out
            rw [List.length_map] at e1 e2
            rw [HPL.out, List.length_append]
            have e5 : pre.length ≤ 6 := by omega
            have e6 : pre.length * 7 ≤ 42 := by omega
            omega
          clear hnear hnr hsp hSH hCL hmkv hBW hKF hPl
          gi_wp2_with (refine ⟨wide_fn _, ?_⟩; gi_at_call 29; refine (CallsIn.inRound l2 (CallsIn.inRound lp (callsIn_wide.2 (HAB.out _)))).mono ?_; rintro e w' ⟨rfl, rfl⟩)
          refine ⟨wide_fn _, ?_⟩
          refine (CallsIn.inRound l2 (CallsIn.inRound lp (callsIn_wide.2 (HSH.out _)))).mono ?_
          rintro e w5 ⟨rfl, b5⟩
          have bL5 := boxed_below bL2 b5 hsL
          have bX5 := boxed_below bX2 b5 hsB
          have bJ5 := boxed_below bJ2 b5 hsJ
          have bN5 := boxed_below bN2 b5 hsN
          have hrow5 := own_below HROW.out b5 (Nat.le_refl _)
          have B5 := (Below.refl T8 W').trans (b5.mono hln)
          have hs5 := b5.size
          have hK5 := ko_below b5
          obtain ⟨cx5, cy5⟩ := HX0.out w5 (hBT.trans B5)
          have cX5 := bX5.cell
          have HB5 := Lib.hid B5
          have HK5 := Lib.hid hK5
          have HR5 := Lib.hid hrow5
          clear b5 B5 hK5 hrow5 f0 f1 g0 g1 cx2 cy2' cX cL fL hrow2 bL2 bX2 bJ2 bN2
          have q50 : w.heap.size < w5.heap.size := by omega
          have q51 : w.heap.size + 1 < w5.heap.size := by omega
          have q5B : Bx < w5.heap.size := by omega
          have q5L : T8 < w5.heap.size := by omega
          gi_wp2
          refine ⟨wide_fn _, ?_⟩
          refine (CallsIn.inRound l2 (CallsIn.inRound lp (callsIn_wide.2 (HCL.out _)))).mono ?_
          rintro e w6 ⟨rfl, b6⟩
          have hs6 := b6.size
          simp only [World.size_alloc] at hs6
          have TS6 := (Two.new w5 shn shd 34).below b6 (Two.new w5 shn shd 34).2.2.2.2
          have bL6 := boxed_below (bL5.alloc (.cells #[.int .i64 shn, .int .i64 shd] 34)) b6 (by simp; omega)
          have bX6 := boxed_below (bX5.alloc (.cells #[.int .i64 shn, .int .i64 shd] 34)) b6 (by simp; omega)
          have bJ6 := boxed_below (bJ5.alloc (.cells #[.int .i64 shn, .int .i64 shd] 34)) b6 (by simp; omega)
          have bN6 := boxed_below (bN5.alloc (.cells #[.int .i64 shn, .int .i64 shd] 34)) b6 (by simp; omega)
          have hrow6 := own_below (HR5.out.alloc (.cells #[.int .i64 shn, .int .i64 shd] 34)) b6 (Nat.le_refl _)
          have B6 := (HB5.out.alloc (by omega) (.cells #[.int .i64 shn, .int .i64 shd] 34)).trans (b6.mono (by simp; omega))
          have K6 := (HK5.out.trans (KeepsOthers.alloc _ (.cells #[.int .i64 shn, .int .i64 shd] 34))).trans (ko_below b6)
          have cX := bX6.cell
          have cL := bL6.cell
          have fL := bL6.frozen
          obtain ⟨t0, t1, _, _, t4⟩ := TS6
          have q6L : T8 < w6.heap.size := bL6.lt
          have q6B : Bx < w6.heap.size := bX6.lt
          have HB6 := Lib.hid B6
          have HK6 := Lib.hid K6
          have HBx := Lib.hid bX6
          have HBl := Lib.hid bL6
          have HBj := Lib.hid bJ6
          have HBn := Lib.hid bN6
          obtain ⟨pl, hpl⟩ : ∃ pl, pl = Pl.length := ⟨_, rfl⟩
          have HPLN := Lib.hid hpl
          rw [← hpl] at cL hlen
          have hrow6' : w6.ownsRow T8 40 6 (.slice a2 pl c2) pl (Pl.flatMap encSp) := by rw [HPLN.out]; exact hrow6
          clear b6 B6 K6 HB5 HK5 HR5 bL5 bX5 bJ5 bN5 cx5 cy5 cX5 hs6 bX6 bJ6 bN6 bL6 hrow6 hpl
          gi_wp2_with (gi_at_builtin; refine wpListIn_append_own _ rfl _ _ 29 rfl T8 40 i0 (.agg #[.int .i64 0, .int .i64 0, .int .i64 0, .int .i64 0, .int .i64 0, .int .i64 0]) 6 48 Tryd.underlying29 HI.out HZ0.out HZ1.out HZ2.out rfl (by decide) _ _ _ rfl ((hrow6'.alloc _).alloc _) ⟨w6.heap.size + 1, 0, none⟩ 1 1 [.int .i64 x.1, .int .i64 y.1, .int .i64 shn, .int .i64 shd, .int .i64 stn, .int .i64 std] rfl rfl (by have h := cells_new (w6.alloc (.cells #[.int .i64 sg, .int .i64 stn, .int .i64 std] 61)) [.int .i64 x.1, .int .i64 y.1, .int .i64 shn, .int .i64 shd, .int .i64 stn, .int .i64 std] 40; simpa using h) (by simp [Value.oneCell']) (by unfold maxLen; omega) (by omega) (by simp; omega) ?_; intro v' w7 hown' hgrow _; obtain ⟨g', cap', rfl⟩ := ownsRow_succ hown'; have AP := Lib.hid ((HBl.out.alloc (.cells #[.int .i64 sg, .int .i64 stn, .int .i64 std] 61)).appended (by decide) (by rw [← HPLN.out]; exact hrow6'.alloc _) (by simp; omega) (Nat.le_refl _) hown' (by rw [← HPLN.out]; exact hgrow)); have hc7 := AP.out.1.cell; have hf7 := AP.out.1.frozen)
          obtain ⟨_, ap2, ap3, ap4, ap5⟩ := AP.out
          have KF := (HK6.out.trans (KeepsOthers.alloc _ (.cells #[.int .i64 sg, .int .i64 stn, .int .i64 std] 61))).trans ap4
          have BF := (HB6.out.alloc (by omega) (.cells #[.int .i64 sg, .int .i64 stn, .int .i64 std] 61)).trans ap5
          have keepb : ∀ {B : Nat} {t : TypeId} {v : Value}, Boxed w6 B t v → t ≠ 40 → B ≠ T8 → Boxed (w7.setCell ⟨T8, 0, none⟩ (.slice (some ⟨g', 0, none⟩) (pl + 1) cap')) B t v := fun hb hte hne =>
            (((hb.alloc _).alloc _).kept hgrow ((hb.alloc (.cells #[.int .i64 sg, .int .i64 stn, .int .i64 std] 61)).not_row hte (hrow6'.alloc _))).other hne _
          have HL2 : rawP j' mk (pre.map (·.1)) ++ rowP j' mk x.1 ((pre' ++ [y]).map (·.1)) = Pl ++ [⟨x.1, y.1, shn, shd, stn, std⟩] := by
            rw [List.map_append, show [y].map (fun z : PJ J' => z.1) = [y.1] from rfl, HST.out, HMV.out, ← List.append_assoc, ← HPL.out]
          have bNf := keepb HBn.out (by decide) (by omega)
          exact ⟨KF.from _, ⟨BF, fun t v hb => by
            obtain ⟨rfl, rfl⟩ := boxed_inj HBN2.out hb
            exact bNf⟩, ⟨⟨⟨_, ap2, by rw [HL2, List.flatMap_append, List.length_append, ← HPLN.out]; exact ap3⟩, keepb HBx.out (by decide) (by omega)⟩, keepb HBj.out (by decide) (by omega), bNf⟩, HBW2.out.trans BF, HKF.out.trans (KF.from _)⟩
        · have hfar : 2 < ab := by omega
          have hnr : near x.1 y.1 = false := by rw [HNR.out]; exact decide_eq_false hnear
          have HST := Lib.hid (rowP_no (y := j') (mk := mk) (pre := pre'.map (·.1)) hnr)
          clear hnear hnr
          gi_wp2_with (refine ⟨wide_fn _, ?_⟩; gi_at_call 29; refine (CallsIn.inRound l2 (CallsIn.inRound lp (callsIn_wide.2 (HAB.out _)))).mono ?_; rintro e w' ⟨rfl, rfl⟩)
          exact ⟨KeepsFrom.refl _ _, ⟨Below.refl _ _, fun _ _ h => h⟩, ⟨⟨⟨⟨_, bL2, by rw [List.map_append, show [y].map (fun z : PJ J' => z.1) = [y.1] from rfl, HST.out]; exact hrow2⟩, bX2⟩, bJ2, bN2⟩, hBW, hKF⟩⟩
      case done2 =>
        rintro ys W' rfl ⟨⟨⟨⟨v2, bL2, hrow2⟩, bX2⟩, bJ2, bN2⟩, hBW, hKF⟩
        gi_wp2
        exact ⟨hKF, ⟨hBW, fun t v hb => by
          have e : Value.int .i64 j = v ∧ 56 = t := by
            have h1 : W.heap[T8 + 1]? = _ := hb
            have h2 : W.heap[T8 + 1]? = _ := bJ1
            rw [h1] at h2
            injection h2 with h2
            injection h2 with h2 h3
            injection h2 with h2
            injection h2 with h2
            exact ⟨h2.symm, h3.symm⟩
          obtain ⟨rfl, rfl⟩ := e
          exact bJ2⟩, ⟨⟨v2, bL2, by
          have hpj : (projA J').map (·.1) = proj j' := (projA_map J').trans (by rw [HJJ'.out])
          rw [hpj] at hrow2
          rw [List.map_append, show [x].map (fun z : PJ J => z.1) = [x.1] from rfl, rawP_succ]
          exact hrow2⟩, bJ2⟩, hB1.trans hBW⟩
      case stop2 =>
        rintro c pre' W' _ h
        exact h.elim
    case done =>
      rintro D ys W hD rfl ⟨⟨⟨v, bL1, hrow⟩, bJ1⟩, hB1⟩ hK
      obtain ⟨⟨q1, q2⟩, q3, q4⟩ := HRES.out W hB1
      have cL := bL1.cell
      rw [hA]
      have hBF := HBW.out.trans (hB1.mono hwT)
      have hRLT : w.heap.size + 1 + 1 < T8 := by omega
      have hROT : w.heap.size + 1 + 1 + 1 < T8 := by omega
      have hlist : rawP j' mk ((projA J).map (·.1)) = splitS s l j s' l' j' := by
        have hpj : (projA J).map (·.1) = proj j := (projA_map J).trans (by rw [HJJ.out])
        rw [hpj, HMK.out]
        exact rawP_all j j' (gn s l j) (gn s' l' j')
      rw [hlist] at hrow
      obtain ⟨a8, c8, rfl⟩ := slice_form hrow
      go_wp2
      have hK' := ((KeepsOthers.setCell W ⟨w.heap.size + 1 + 1, 0, none⟩ (.slice a8 (splitS s l j s' l' j').length c8)).trans (KeepsOthers.setCell _ ⟨w.heap.size + 1 + 1 + 1, 0, none⟩ (.bool true))).same D _ hK rfl
      have e1 : ((W.setCell ⟨w.heap.size + 1 + 1, 0, none⟩ (.slice a8 (splitS s l j s' l' j').length c8)).setCell ⟨w.heap.size + 1 + 1 + 1, 0, none⟩ (.bool true)).cell? ⟨w.heap.size + 1 + 1, 0, none⟩ = some (.slice a8 (splitS s l j s' l' j').length c8) := by
        rw [World.cell?_setCell_far _ _ _ _ (by simp)]
        exact World.cell?_setCell_same' _ _ _ (by rw [q1]; rfl)
      have e2 : ((W.setCell ⟨w.heap.size + 1 + 1, 0, none⟩ (.slice a8 (splitS s l j s' l' j').length c8)).setCell ⟨w.heap.size + 1 + 1 + 1, 0, none⟩ (.bool true)).cell? ⟨w.heap.size + 1 + 1 + 1, 0, none⟩ = some (.bool true) :=
        World.cell?_setCell_same' _ _ _ (by rw [World.cell?_setCell_far _ _ _ _ (by simp), q3]; rfl)
      have r1 : ((W.setCell ⟨w.heap.size + 1 + 1, 0, none⟩ (.slice a8 (splitS s l j s' l' j').length c8)).setCell ⟨w.heap.size + 1 + 1 + 1, 0, none⟩ (.bool true)).ownsRow T8 40 6 (.slice a8 (splitS s l j s' l' j').length c8) (splitS s l j s' l' j').length ((splitS s l j s' l' j').flatMap encSp) := by
        refine World.ownsRow.kept (World.ownsRow.kept hrow (grownBy_setCell' _ _ _) (.inr ?_)) (grownBy_setCell' _ _ _) (.inr ?_)
        · intro e; have := (hrow.lt _ e).1; omega
        · intro e; have := (hrow.lt _ e).1; omega
      refine ⟨by simp, .inl ⟨_, _, rfl, run_takeDeferred hK', ?_⟩⟩
      have d1 := cell_kept e1 (grownBy_putObj' _ D (.deferred none)) (fun r e => by cases e; exact ⟨_, hK', rfl⟩)
      have d2 := cell_kept e2 (grownBy_putObj' _ D (.deferred none)) (fun r e => by cases e; exact ⟨_, hK', rfl⟩)
      refine ⟨.tuple #[.slice a8 (splitS s l j s' l' j').length c8, .bool true], ?_, ⟨_, rfl, ?_, ?_⟩⟩
      · simp [results, Tryd.f9, go_sem, d1, d2]
      · exact own_base (ownsRow_putObj r1 _ hK' rfl) hwT
      · exact ((hBF.setCell (p := ⟨w.heap.size + 1 + 1, 0, none⟩) (by simp; omega) _).setCell (p := ⟨w.heap.size + 1 + 1 + 1, 0, none⟩) (by simp; omega) _).trans (belowK_b (w := w) (Nat.le_refl _) _ D _ _ (by omega) hK' rfl rfl)
    case stop =>
      rintro D c pre W hD _ h _
      exact h.elim
end Go.Proofs.YtpollgibgphipaaDoor.SplI
