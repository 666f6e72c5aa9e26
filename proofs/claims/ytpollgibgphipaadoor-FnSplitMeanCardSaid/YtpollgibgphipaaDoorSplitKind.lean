/-
  Contracts of SplitKind, the program's and the reference's.
-/
import Derived.Test.YtpollgibgphipaaDoorSplitLaws
namespace Go.Proofs.YtpollgibgphipaaDoor.SplitKind
open Go.RowKit Go.Proofs.YtpollgibgphipaaDoor.Spin Go.Proofs.YtpollgibgphipaaDoor.Row Go.Proofs.YtpollgibgphipaaDoor.Later Go.Proofs.YtpollgibgphipaaDoor.SplitPlain Go.Proofs.YtpollgibgphipaaDoor.SplitDef Go.Proofs.YtpollgibgphipaaDoor.RowsSplit
set_option linter.unusedVariables false
set_option linter.unusedSimpArgs false

def kindW (u l : Int) : Int := wrap64 (u - l)
def kindOf (xs : List Sp) (kd : Int) : List Sp := xs.filter fun x => decide (kindW x.u x.l = kd)
def kpart (l : List Sp) (kd : Int) (m : Nat) : List Sp := (l.take m).filter fun x => decide (kindW x.u x.l = kd)
theorem kpart_yes {l : List Sp} {kd : Int} {m : Nat} (hm : m < l.length) (h : kindW l[m].u l[m].l = kd) : kpart l kd (m + 1) = kpart l kd m ++ [l[m]] := by
  unfold kpart; rw [List.take_succ_eq_append_getElem hm, List.filter_append]; simp [h]
theorem kpart_no {l : List Sp} {kd : Int} {m : Nat} (hm : m < l.length) (h : ¬ kindW l[m].u l[m].l = kd) : kpart l kd (m + 1) = kpart l kd m := by
  unfold kpart; rw [List.take_succ_eq_append_getElem hm, List.filter_append]; simp [h]
theorem kpart_len (l : List Sp) (kd : Int) (m : Nat) : (kpart l kd m).length ≤ m := Nat.le_trans (List.length_filter_le _ _) (by rw [List.length_take]; omega)
theorem kpart_all (l : List Sp) (kd : Int) (m : Nat) (h : l.length ≤ m) : kpart l kd m = kindOf l kd := by unfold kpart kindOf; rw [List.take_of_length_le h]
theorem kind_len (l : List Sp) (kd : Int) (h : l.length ≤ 1048576) : (kindOf l kd).length ≤ 1048576 := Nat.le_trans (List.length_filter_le _ _) h

set_option maxRecDepth 100000 in
set_option maxHeartbeats 2000000 in
theorem iSplitKind (xs : List Sp) (kd : Int) (v : Value) (w : World) (hs : Sees w 6 v xs.length (xs.flatMap encSp)) (hx : xs.length ≤ 1048576) :
    Calls Tryd.prog 20 #[v, .int .i64 kd] w (GivesRow 40 6 (kindOf xs kd).length ((kindOf xs kd).flatMap encSp) w) := by
  obtain ⟨i0, hi, hz0, hz1, hz2⟩ := info_parts infoSplit
  have HI := Lib.hid hi
  have HZ0 := Lib.hid hz0
  have HZ1 := Lib.hid hz1
  have HZ2 := Lib.hid hz2
  clear hi hz0 hz1 hz2
  obtain ⟨n, hn⟩ : ∃ n, n = xs.length := ⟨_, rfl⟩
  have HN := Lib.hid hn
  rw [← hn] at hs hx
  clear hn
  rcases hs.2 with ⟨rfl, a, c, rfl⟩ | ⟨b, o, c, rfl, hnc, hcm, hb, hcell⟩
  · have HE := Lib.hid (List.eq_nil_of_length_eq_zero HN.out.symm)
    clear hs
    go_enter Tryd.func20, Tryd.ntmps20
    go_wp2
    go_loopw [5, 10] (fun u i wr => u = .slice none 0 0 ∧ i = .int .i64 0 ∧ wr = w) (fun _ _ _ => 0)
    case atStart => exact ⟨rfl, rfl, rfl⟩
    case round =>
      obtain ⟨rfl, rfl, rfl⟩ := hrel
      go_wp2
      go_ret
      exact ⟨_, rfl, by rw [HE.out]; exact World.ownsRow_nil _ _ _ _, Below.refl _ _⟩
  · have HC := Lib.hid hcell
    unfold maxLen at hcm
    clear hs hcell
    go_enter Tryd.func20, Tryd.ntmps20
    go_wp2
    go_loopw [5, 10] (fun u i wr => ∃ (m : Nat) (v2 : Value), v2 = u ∧ m ≤ n ∧ i = .int .i64 m ∧ wr.ownsRow w.heap.size 40 6 v2 (kpart xs kd m).length ((kpart xs kd m).flatMap encSp) ∧ Below w.heap.size w wr) (fun _ i _ => n - (intOf i).toNat)
    case atStart => exact ⟨0, _, rfl, by omega, rfl, World.ownsRow_nil _ _ _ _, Below.refl _ _⟩
    case round =>
      obtain ⟨m, v2, rfl, hm, rfl, hown, hB⟩ := hrel
      have hsz := hB.size
      by_cases hlt : m < n
      · have hkl : m < xs.length := by have := HN.out; omega
        obtain ⟨u0, u1, u2, u3, u4, u5⟩ := at_Split (w := wr) (xs := xs) (b := b) (o := o) (fun j hj => (hB.cell (p := ⟨b, o + j, none⟩) hb).trans (HC.out j (by have := HN.out; omega))) m hkl
        have hpl := kpart_len xs kd m
        have HY := Lib.hid (fun h => kpart_yes (l := xs) (kd := kd) hkl h)
        have HNO := Lib.hid (fun h => kpart_no (l := xs) (kd := kd) hkl h)
        have hbw : b < wr.heap.size := by omega
        generalize xs[m] = y at *
        obtain ⟨yu, yl, yp, yq, ys, yt⟩ := y
        simp only at u0 u1 u2 u3 u4 u5 HY HNO
        generalize hP : kpart xs kd m = P at *
        obtain ⟨pl, hpl'⟩ : ∃ pl, pl = P.length := ⟨_, rfl⟩
        have HPL := Lib.hid hpl'
        rw [← hpl'] at hown hpl
        clear hpl' hP
        by_cases hy : kindW yu yl = kd
        · have HF := Lib.hid (HY.out hy)
          have hy' : (wrap64 (yu - yl) == kd) = true := by rw [beq_iff_eq]; exact hy
          clear hy HY HNO
          go_wp2_with (at_builtin; refine wpList_append_own _ rfl _ _ 29 rfl w.heap.size 40 i0 (.agg #[.int .i64 0, .int .i64 0, .int .i64 0, .int .i64 0, .int .i64 0, .int .i64 0]) 6 48 Tryd.underlying29 HI.out HZ0.out HZ1.out HZ2.out rfl (by decide) _ _ _ rfl ((hown.alloc _).alloc _) ⟨wr.heap.size + 1, 0, none⟩ 1 1 [.int .i64 yu, .int .i64 yl, .int .i64 yp, .int .i64 yq, .int .i64 ys, .int .i64 yt] rfl rfl (by have h := cells_new (wr.alloc (.cells #[.int .i64 yu, .int .i64 yl, .int .i64 yp, .int .i64 yq, .int .i64 ys, .int .i64 yt] 40)) [.int .i64 yu, .int .i64 yl, .int .i64 yp, .int .i64 yq, .int .i64 ys, .int .i64 yt] 40; simpa using h) (by simp [Value.oneCell']) (by unfold maxLen; omega) (by omega) (by simp; omega) ?_)
          intro v' w2 hown' hgrow _
          have B2 := own_step (hB.alloc hB.size _) (Nat.le_refl _) hgrow (fun k hk => (hown.lt k hk).1)
          have O2 : w2.ownsRow w.heap.size 40 6 v' (P ++ [(⟨yu, yl, yp, yq, ys, yt⟩ : Sp)]).length ((P ++ [(⟨yu, yl, yp, yq, ys, yt⟩ : Sp)]).flatMap encSp) := by
            rw [List.flatMap_append, List.length_append, ← HPL.out]
            exact hown'
          clear hown' hgrow hown u0 u1 u2 u3 u4 u5
          go_wp2
          go_roundw
          case rel => exact ⟨m + 1, v', rfl, by omega, by go_num, by rw [HF.out]; exact O2, B2⟩
          case measure => simp [intOf]; omega
        · have HF := Lib.hid (HNO.out hy)
          have hy' : (wrap64 (yu - yl) == kd) = false := by rw [beq_eq_false_iff_ne]; exact hy
          clear hy HY HNO
          go_wp2
          go_roundw
          case rel => exact ⟨m + 1, v2, rfl, by omega, by go_num, by rw [HF.out, ← HPL.out]; exact hown.alloc _, hB.alloc hB.size _⟩
          case measure => simp [intOf]; omega
      · obtain rfl : m = n := by omega
        have HP := kpart_all xs kd m (by have := HN.out; omega)
        rw [HP] at hown
        clear HP
        go_wp2
        go_ret
        exact ⟨_, rfl, hown, hB⟩


end Go.Proofs.YtpollgibgphipaaDoor.SplitKind
