/-
  Contract of the program's SchemeLines.
-/
import Derived.Test.YtgkgdnocleajcaaLinesFn
import Derived.Test.YtgkgdnocleajcaaShelf
import Derived.Shelf.SlSortCmp.NoneTotal
import Derived.Maps.AppendAt
namespace Go.Proofs.Ytgkgdnocleajcaa.LinesI
open Go.RowKit Go.Sort Go.Shelf Go.Lib Go.Proofs.Ytgkgdnocleajcaa.Spin Go.Proofs.Ytgkgdnocleajcaa.Row Go.Proofs.Ytgkgdnocleajcaa.Plain Go.Proofs.Ytgkgdnocleajcaa.Later Go.Proofs.Ytgkgdnocleajcaa.Node Go.Proofs.Ytgkgdnocleajcaa.Line Go.Proofs.Ytgkgdnocleajcaa.LinesFn
set_option linter.unusedVariables false
set_option linter.unusedSimpArgs false

theorem three_allocs (W : World) (a b c : Obj) : (((W.alloc a).alloc b).drew).alloc c = grow (W.drewN 1) #[a, b, c] := by
  unfold World.alloc World.drew World.drewN grow
  simp only [World.mk.injEq, true_and, and_true]
  apply Array.ext'
  simp

/-! ### a row of the call's own, sorted -/
theorem flatK_list {α : Type} [Inhabited α] (enc : α → List Value) (k : Nat) (hk : ∀ x, (enc x).length = k) (hk0 : 0 < k) (xs : List α) : flatK enc k xs.toArray = (xs.flatMap enc).toArray := by
  have hs : (flatK enc k xs.toArray).size = (xs.flatMap enc).toArray.size := by rw [size_flatK]; simp [flat_length enc k hk]
  refine ext_get! hs fun t ht => ?_
  have ht' : t < xs.length * k := by simpa using ht
  rw [get_flatK _ _ _ _ (by simpa using ht')]
  have hjk : t / k < xs.length := Nat.div_lt_of_lt_mul (by rw [Nat.mul_comm]; exact ht')
  have hjm : t % k < k := Nat.mod_lt _ hk0
  have e : t / k * k + t % k = t := by rw [Nat.mul_comm]; exact Nat.div_add_mod t k
  have g := flat_get enc k hk xs (t / k) (t % k) hjk hjm
  rw [e] at g
  have h1 : t < (xs.flatMap enc).length := by rw [flat_length enc k hk]; exact ht'
  have h2 : t % k < (enc xs[t / k]).length := by rw [hk]; exact hjm
  rw [List.getElem?_eq_getElem h1, List.getElem?_eq_getElem h2] at g
  have g' := Option.some.inj g
  simp [hjk, h2]
  rw [List.getElem?_eq_getElem h1]
  exact g'.symm

theorem holdsK_own {α : Type} [Inhabited α] (enc : α → List Value) (k : Nat) (hk : ∀ x, (enc x).length = k) (hk0 : 0 < k) {w : World} {base g cap n : Nat} {e : TypeId} (xs : List α) (h : w.ownsRow base e k (.slice (some ⟨g, 0, none⟩) n cap) n (xs.flatMap enc)) : HoldsK enc k w g 0 xs.toArray := by
  unfold HoldsK
  rw [flatK_list enc k hk hk0]
  intro j hj
  have hj' : j < (xs.flatMap enc).length := by simpa using hj
  have hl := h.1
  rw [Nat.zero_add]
  refine ⟨?_, h.frozenAt j⟩
  rw [h.cellAt j (by omega), List.getElem?_eq_getElem hj']
  simp
  rw [List.getElem?_eq_getElem hj']
  rfl

theorem own_sorted {α : Type} [Inhabited α] (enc : α → List Value) (k : Nat) (hk : ∀ x, (enc x).length = k) (hk0 : 0 < k) {w : World} {base g cap n m : Nat} {e : TypeId} {os : Array Obj} {cs : List Value} (ys : List α) (hy : ys.length = n) (h : w.ownsRow base e k (.slice (some ⟨g, 0, none⟩) n cap) n cs) :
    (sortWorldK enc k w g 0 m ys.toArray os).ownsRow base e k (.slice (some ⟨g, 0, none⟩) n cap) n (ys.flatMap enc) ∧ w.grownBy (sortWorldK enc k w g 0 m ys.toArray os) (some g) := by
  have hyl : (ys.flatMap enc).length = n * k := by rw [flat_length enc k hk, hy]
  unfold sortWorldK putRowK
  rw [flatK_list enc k hk hk0]
  rcases h.2 with ⟨h0, _⟩ | ⟨g', cap', cur, hv, hb, hg, hn, hm, hs, ht⟩
  · cases h0
  · cases hv
    have hgl := lt_of_block hg
    refine ⟨⟨hyl, .inr ⟨g, cap, putCells id 0 (ys.flatMap enc).toArray cur, rfl, hb, ?_, hn, hm, by simp [putCells, hs], ?_⟩⟩, ⟨rfl, rfl, rfl, by simp, fun i hi hne => ?_⟩⟩
    · rw [heap_grow_old _ _ (by simpa using hgl)]
      simp [putRow, mapBlock, Sort.ahead, Array.getElem?_modify, hg, onCells]
    · have hle : n * k ≤ cur.size := by rw [hs]; exact Nat.mul_le_mul_right k hn
      apply List.ext_getElem?
      intro j
      by_cases hj : j < n * k
      · rw [List.getElem?_take_of_lt hj, Array.getElem?_toList]
        have hj2 : j < (ys.flatMap enc).length := by omega
        have hj3 : j < cur.size := by omega
        simp only [putCells, Array.getElem?_mapIdx, List.size_toArray, Nat.zero_le, Nat.zero_add, true_and, Nat.sub_zero, id_eq]
        rw [Array.getElem?_eq_getElem hj3, Option.map_some, if_pos hj2, getElem!_pos _ j (by simpa using hj2), List.getElem?_eq_getElem hj2]
        simp
      · rw [List.getElem?_take_eq_none (by omega), List.getElem?_eq_none (by omega)]
    · rw [heap_grow_old _ _ (by simpa using hi)]
      have : g ≠ i := fun e => hne (by rw [e])
      simp [putRow, mapBlock, Sort.ahead, Array.getElem?_modify, this]

set_option maxHeartbeats 1000000 in
theorem lineCmp (x y : Ln) (W : World) : Calls Try.prog 44 #[.agg #[.int .i64 (x.u : Int), .int .i64 (x.l : Int), .int .i64 x.n], .agg #[.int .i64 (y.u : Int), .int .i64 (y.l : Int), .int .i64 y.n]] W fun e w' => e = .returned (.int .i64 (cmpLn x y)) ∧ ∃ q os', w' = grow (W.drewN q) os' := by
  have HR := Lib.hid (show cmpLn x y = or3 (cmpI x.n y.n) (cmpI x.u y.u) (cmpI x.l y.l) from rfl)
  go_enter Try.func44, Try.ntmps44
  go_wp2_with fail
  refine wp_region_tail 15 (by kernel_rfl) (by kernel_rfl) ?_
  intro w1 hw1
  have c0 : w1.cell? ⟨W.heap.size, 0, none⟩ = some (.int .i64 (x.u : Int)) := by rw [hw1]; simp
  have c1 : w1.cell? ⟨W.heap.size, 1, none⟩ = some (.int .i64 (x.l : Int)) := by rw [hw1]; simp
  have c2 : w1.cell? ⟨W.heap.size, 2, none⟩ = some (.int .i64 x.n) := by rw [hw1]; simp
  have d0 : w1.cell? ⟨W.heap.size + 1, 0, none⟩ = some (.int .i64 (y.u : Int)) := by rw [hw1]; simp
  have d1 : w1.cell? ⟨W.heap.size + 1, 1, none⟩ = some (.int .i64 (y.l : Int)) := by rw [hw1]; simp
  have d2 : w1.cell? ⟨W.heap.size + 1, 2, none⟩ = some (.int .i64 y.n) := by rw [hw1]; simp
  have HW := Lib.hid hw1
  clear hw1
  simp only [List.take_succ_cons, List.take_zero, List.drop_succ_cons, List.drop_zero]
  repeat (first | still_step | still_call (compare _ _ _))
  refine wpStill_nil ?_
  go_wp2_with (go_at_call 45; refine (cmpOr (cmpI x.n y.n) (cmpI x.u y.u) (cmpI x.l y.l) _ _ (by simp) (by simp) (by simp)).mono ?_; rintro e w' ⟨rfl, rfl⟩)
  go_ret
  exact ⟨ret_int HR.out.symm, 1, _, (congrArg (fun z => World.alloc z _) HW.out).trans (three_allocs _ _ _ _)⟩

theorem cmpI_neg (a b : Int) : cmpI a b < 0 ↔ a < b := by unfold cmpI; split <;> (try split) <;> omega
theorem cmpI_zero (a b : Int) : cmpI a b = 0 ↔ a = b := by unfold cmpI; split <;> (try split) <;> omega
theorem cmp_lt (x y : Ln) : ltOf cmpLn x y = lt x y := by
  unfold ltOf
  rw [Bool.eq_iff_iff, decide_eq_true_eq, lt_iff]
  have n1 := cmpI_neg x.n y.n
  have n2 := cmpI_neg x.u y.u
  have n3 := cmpI_neg x.l y.l
  have z1 := cmpI_zero x.n y.n
  have z2 := cmpI_zero x.u y.u
  unfold cmpLn or3
  split
  · split <;> omega
  · omega
theorem lt_swo : SWO (ltOf cmpLn) where
  irrefl x := by rw [cmp_lt, lt_not]; omega
  trans x y z h1 h2 := by rw [cmp_lt, lt_iff] at *; omega
  ntrans x y z h1 h2 := by rw [cmp_lt, lt_not] at *; omega
theorem cmp_total (x y : Ln) (h1 : ltOf cmpLn x y = false) (h2 : ltOf cmpLn y x = false) : x = y := by
  rw [cmp_lt, lt_not] at *
  exact Ln.eq_of (by omega) (by omega) (by omega)
theorem sort_le (l : List Ln) : (l.mergeSort fun x y => !(ltOf cmpLn) y x) = sorted l := by
  have : (fun x y => !(ltOf cmpLn) y x) = le := by
    funext x y
    rw [cmp_lt]
    rfl
  rw [this]
  rfl

end Go.Proofs.Ytgkgdnocleajcaa.LinesI
