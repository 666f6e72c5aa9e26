/-
  Components of a line: sums and spans of what is drawn, a normal pattern.
-/
import Derived.Test.YtpollgibgphipaaDoorSplitM
namespace Go.Proofs.YtpollgibgphipaaDoor.SplitP
open Go.Proofs.YtpollgibgphipaaDoor.RatP Go.Proofs.YtpollgibgphipaaDoor.Spin Go.Proofs.YtpollgibgphipaaDoor.ChoP Go.Proofs.YtpollgibgphipaaDoor.SplitPlain
set_option linter.unusedVariables false
set_option linter.unusedSimpArgs false
/-! ### sums and spans of drawn components -/
def sumL (l : List Sp) : Ro := sumFrom ⟨0, 1, true⟩ (ros l)
def shs (l : List Sp) : List Ro := l.map fun e => ⟨e.p, e.q, true⟩
def spanFrom (lo hi : Ro) : List Ro → Ro
  | [] => subQ hi lo
  | x :: xs => if ratOk x.n x.d = true then spanFrom (if lessQ x lo = true then x else lo) (if lessQ hi x = true then x else hi) xs else bad
def spanL (l : List Sp) : Ro := match shs l with
  | [] => bad
  | x :: xs => spanFrom x x (x :: xs)
def SumOk (l : List Sp) : Prop := ∃ ss : List Int, ros l = ss.map (fun k => mkR k 420) ∧ (∀ k ∈ ss, 0 ≤ k) ∧ total ss ≤ 1000000
def SpanOk (l : List Sp) : Prop := ∃ (D : Int) (ns : List Int), (1 ≤ D ∧ D ≤ 1000000) ∧ (∀ k ∈ ns, -4000000 ≤ k ∧ k ≤ 4000000) ∧ shs l = ns.map fun k => mkR k D
theorem zero420 : (⟨0, 1, true⟩ : Ro) = mkR 0 420 := rfl
theorem SumOk.take {l : List Sp} (h : SumOk l) (k : Nat) : SumOk (l.take k) := by
  obtain ⟨ss, h1, h2, h3⟩ := h
  refine ⟨ss.take k, ?_, fun x hx => h2 x (List.mem_of_mem_take hx), ?_⟩
  · unfold ros at h1 ⊢
    rw [List.map_take, h1, List.map_take]
  · have e := total_append (ss.take k) (ss.drop k)
    rw [List.take_append_drop] at e
    have := total_nonneg (xs := ss.drop k) (fun x hx => h2 x (List.mem_of_mem_drop hx))
    omega
theorem SumOk.drop {l : List Sp} (h : SumOk l) (k : Nat) : SumOk (l.drop k) := by
  obtain ⟨ss, h1, h2, h3⟩ := h
  refine ⟨ss.drop k, ?_, fun x hx => h2 x (List.mem_of_mem_drop hx), ?_⟩
  · unfold ros at h1 ⊢
    rw [List.map_drop, h1, List.map_drop]
  · have e := total_append (ss.take k) (ss.drop k)
    rw [List.take_append_drop] at e
    have := total_nonneg (xs := ss.take k) (fun x hx => h2 x (List.mem_of_mem_take hx))
    omega
theorem SumOk.val {l : List Sp} {ss : List Int} (h1 : ros l = ss.map (fun k => mkR k 420)) (h2 : ∀ k ∈ ss, 0 ≤ k) (h3 : total ss ≤ 1000000) : sumL l = mkR (total ss) 420 ∧ (sumL l).ok = true ∧ Sm (total ss) 420 := by
  have h4 := total_nonneg h2
  have s : Sm (total ss) 420 := ⟨by omega, by omega⟩
  have e : sumL l = mkR (total ss) 420 := by
    unfold sumL
    rw [h1, zero420, sum_mk (by omega) ss 0 (by omega) h2 (by omega), Int.zero_add]
  exact ⟨e, by rw [e, mk_of s], s⟩
/-- sums of two parts -/
theorem SumOk.parts {l : List Sp} (h : SumOk l) (k : Nat) : (sumL l).ok = true ∧ (sumL (l.take k)).ok = true ∧ (sumL (l.drop k)).ok = true ∧ addQ (sumL (l.take k)) (sumL (l.drop k)) = sumL l := by
  obtain ⟨ss, h1, h2, h3⟩ := h
  have e := total_append (ss.take k) (ss.drop k)
  rw [List.take_append_drop] at e
  have n1 := total_nonneg (xs := ss.take k) (fun x hx => h2 x (List.mem_of_mem_take hx))
  have n2 := total_nonneg (xs := ss.drop k) (fun x hx => h2 x (List.mem_of_mem_drop hx))
  have a1 := SumOk.val h1 h2 h3
  have a2 := SumOk.val (l := l.take k) (ss := ss.take k) (by unfold ros at h1 ⊢; rw [List.map_take, h1, List.map_take]) (fun x hx => h2 x (List.mem_of_mem_take hx)) (by omega)
  have a3 := SumOk.val (l := l.drop k) (ss := ss.drop k) (by unfold ros at h1 ⊢; rw [List.map_drop, h1, List.map_drop]) (fun x hx => h2 x (List.mem_of_mem_drop hx)) (by omega)
  refine ⟨a1.2.1, a2.2.1, a3.2.1, ?_⟩
  rw [a1.1, a2.1, a3.1, cadd a2.2.2 a3.2.2, e]
theorem sum_bad (l : List Sp) (e : Sp) (he : ratOk e.s e.t = false) : sumL (l ++ [e]) = bad := by
  unfold sumL
  generalize (⟨0, 1, true⟩ : Ro) = acc
  induction l generalizing acc with
  | nil => 
    have : addQ acc ⟨e.s, e.t, true⟩ = bad := by
      unfold addQ addR
      rw [if_neg]; simp [he]
    show (if (addQ acc ⟨e.s, e.t, true⟩).ok = true then sumFrom (addQ acc ⟨e.s, e.t, true⟩) [] else bad) = bad
    rw [this]; rfl
  | cons x l ih =>
    show (if (addQ acc ⟨x.s, x.t, true⟩).ok = true then sumFrom (addQ acc ⟨x.s, x.t, true⟩) (ros (l ++ [e])) else bad) = bad
    rw [ih]; split <;> rfl
/-! ### spans -/
def loI (lo : Int) : List Int → Int
  | [] => lo
  | x :: xs => loI (if x < lo then x else lo) xs
def hiI (hi : Int) : List Int → Int
  | [] => hi
  | x :: xs => hiI (if hi < x then x else hi) xs
theorem loI_le (lo : Int) (xs : List Int) : loI lo xs ≤ lo ∧ (∀ x ∈ xs, loI lo xs ≤ x) ∧ (loI lo xs = lo ∨ loI lo xs ∈ xs) := by
  induction xs generalizing lo with
  | nil => simp [loI]
  | cons x xs ih =>
    obtain ⟨h1, h2, h3⟩ := ih (if x < lo then x else lo)
    simp only [loI]
    have hi : (if x < lo then x else lo) ≤ lo ∧ (if x < lo then x else lo) ≤ x := by split <;> omega
    refine ⟨by omega, ?_, ?_⟩
    · intro y hy
      rcases List.mem_cons.1 hy with rfl | hy
      · omega
      · exact h2 y hy
    · rcases h3 with h3 | h3
      · rw [h3]; split
        · right; simp
        · left; rfl
      · right; exact List.mem_cons_of_mem _ h3
theorem hiI_le (hi : Int) (xs : List Int) : hi ≤ hiI hi xs ∧ (∀ x ∈ xs, x ≤ hiI hi xs) ∧ (hiI hi xs = hi ∨ hiI hi xs ∈ xs) := by
  induction xs generalizing hi with
  | nil => simp [hiI]
  | cons x xs ih =>
    obtain ⟨h1, h2, h3⟩ := ih (if hi < x then x else hi)
    simp only [hiI]
    have hj : hi ≤ (if hi < x then x else hi) ∧ x ≤ (if hi < x then x else hi) := by split <;> omega
    refine ⟨by omega, ?_, ?_⟩
    · intro y hy
      rcases List.mem_cons.1 hy with rfl | hy
      · omega
      · exact h2 y hy
    · rcases h3 with h3 | h3
      · rw [h3]; split
        · right; simp
        · left; rfl
      · right; exact List.mem_cons_of_mem _ h3
theorem span_mk {D : Int} (xs : List Int) (lo hi : Int) (hlo : Sm lo D) (hhi : Sm hi D) (hx : ∀ x ∈ xs, Sm x D) : spanFrom (mkR lo D) (mkR hi D) (xs.map fun k => mkR k D) = mkR (hiI hi xs - loI lo xs) D := by
  induction xs generalizing lo hi with
  | nil => exact csub hhi hlo
  | cons x xs ih =>
    have h0 := hx x (by simp)
    have hok : ratOk (mkR x D).n (mkR x D).d = true := by rw [mk_of h0]; exact ok_of h0
    show (if ratOk (mkR x D).n (mkR x D).d = true then spanFrom (if lessQ (mkR x D) (mkR lo D) = true then mkR x D else mkR lo D) (if lessQ (mkR hi D) (mkR x D) = true then mkR x D else mkR hi D) (xs.map _) else bad) = _
    rw [if_pos hok, cless h0 hlo, cless hhi h0]
    simp only [decide_eq_true_eq]
    rw [show (if x < lo then mkR x D else mkR lo D) = mkR (if x < lo then x else lo) D by split <;> rfl, show (if hi < x then mkR x D else mkR hi D) = mkR (if hi < x then x else hi) D by split <;> rfl]
    exact ih _ _ (by split <;> assumption) (by split <;> assumption) (fun y hy => hx y (by simp [hy]))
theorem get_of_map {α β : Type} {f : α → β} {l : List α} {xs : List β} (h : l.map f = xs) {i : Nat} (hi : i < l.length) : ∃ hi' : i < xs.length, f l[i] = xs[i] := by
  subst h
  exact ⟨by simpa using hi, by simp⟩
/-- the span is at least each difference -/
theorem SpanOk.law {l : List Sp} (h : SpanOk l) (hl : l ≠ []) : (spanL l).ok = true ∧ 0 ≤ (spanL l).n ∧ ∀ (i k : Nat) (hi : i < l.length) (hk : k < l.length), ∃ r : Ro, r.ok = true ∧ subR l[i].p l[i].q l[k].p l[k].q = r ∧ lessR (spanL l).n (spanL l).d r.n r.d = false := by
  obtain ⟨D, ns, hD, hns, hsh⟩ := h
  have hsm : ∀ k ∈ ns, Sm k D := fun k hk => ⟨by have := hns k hk; omega, by omega⟩
  cases ns with
  | nil => 
    exfalso
    unfold shs at hsh
    cases l with
    | nil => exact hl rfl
    | cons a b => simp at hsh
  | cons n0 ns =>
    have e : spanL l = mkR (hiI n0 (n0 :: ns) - loI n0 (n0 :: ns)) D := by
      unfold spanL
      rw [hsh]
      exact span_mk (n0 :: ns) n0 n0 (hsm n0 (by simp)) (hsm n0 (by simp)) hsm
    have b1 := loI_le n0 (n0 :: ns)
    have b2 := hiI_le n0 (n0 :: ns)
    generalize hlo : loI n0 (n0 :: ns) = lo at *
    generalize hhi : hiI n0 (n0 :: ns) = hi at *
    have c1 : -4000000 ≤ lo ∧ lo ≤ 4000000 := by
      rcases b1.2.2 with h | h
      · rw [h]; exact hns n0 (by simp)
      · exact hns _ h
    have c2 : -4000000 ≤ hi ∧ hi ≤ 4000000 := by
      rcases b2.2.2 with h | h
      · rw [h]; exact hns n0 (by simp)
      · exact hns _ h
    have ss : Sm (hi - lo) D := ⟨by omega, by omega⟩
    rw [e]
    refine ⟨by rw [mk_of ss], ?_, ?_⟩
    · rw [mk_of ss]
      show 0 ≤ nn (hi - lo) D
      unfold nn
      rw [Int.tdiv_eq_ediv_of_nonneg (by omega)]
      exact Int.ediv_nonneg (by omega) (Int.natCast_nonneg _)
    · intro i k hi' hk'
      obtain ⟨i1, i2⟩ := get_of_map hsh hi'
      obtain ⟨k1, k2⟩ := get_of_map hsh hk'
      rw [List.getElem_map] at i2 k2
      have hi1 : i < (n0 :: ns).length := by simpa using i1
      have hk1 : k < (n0 :: ns).length := by simpa using k1
      have m1 := List.getElem_mem hi1
      have m2 := List.getElem_mem hk1
      generalize (n0 :: ns)[i] = A at *
      generalize (n0 :: ns)[k] = B at *
      have d1 := hns A m1
      have d2 := hns B m2
      have sd : Sm (A - B) D := ⟨by omega, by omega⟩
      refine ⟨mkR (A - B) D, by rw [mk_of sd], ?_, ?_⟩
      · have q := csub (hsm A m1) (hsm B m2)
        rw [← i2, ← k2] at q
        exact q
      · have q := cless ss sd
        unfold lessQ at q
        rw [q]
        have := b1.2.1 B m2
        have := b2.2.1 A m1
        exact decide_eq_false (by omega)
theorem span_bad (l : List Sp) (e : Sp) (he : ratOk e.p e.q = false) : spanL (l ++ [e]) = bad := by
  have key : ∀ (xs : List Ro) (lo hi : Ro), spanFrom lo hi (xs ++ [⟨e.p, e.q, true⟩]) = bad := by
    intro xs
    induction xs with
    | nil => intro lo hi; show (if ratOk e.p e.q = true then _ else bad) = bad; rw [he]; rfl
    | cons x xs ih => intro lo hi; show (if ratOk x.n x.d = true then spanFrom _ _ (xs ++ _) else bad) = bad; rw [ih]; split <;> rfl
  unfold spanL shs
  rw [List.map_append]
  cases l with
  | nil => exact key [] _ _
  | cons a l => exact key (_ :: List.map _ l) _ _
/-! ### what is drawn -/
theorem Pair.sumOk {x y a c : Int} (P : Pair x y a c) : SumOk (splitL x y a c) := by
  refine ⟨strs x y (comps x y), ros_is P (fun e he => he), strs_nonneg P (fun e he => he), ?_⟩
  have h : total (strs x y (comps x y)) = 420 * (x + 1) := of_decide_eq_true (pairs_at all_total P.hx P.hy P.ht)
  have := P.hx
  omega
theorem SumOk.more {l : List Sp} (h : SumOk l) (hl : l.length ≤ 1000) {ss : List Int} (h1 : ros l = ss.map (fun k => mkR k 420)) (h2 : ∀ k ∈ ss, 0 ≤ k) (h3 : total ss ≤ 999000) : SumOk (l ++ [⟨3, 3, 1, 7, 1, 3⟩]) := by
  refine ⟨ss ++ [140], ?_, ?_, ?_⟩
  · unfold ros at h1 ⊢
    rw [List.map_append, List.map_append, h1]; rfl
  · intro k hk
    rcases List.mem_append.1 hk with hk | hk
    · exact h2 k hk
    · simp at hk; omega
  · rw [total_append]; simp [total]; omega
theorem Pair.sumOk1 {x y a c : Int} (P : Pair x y a c) : SumOk (splitL x y a c ++ [⟨3, 3, 1, 7, 1, 3⟩]) := by
  have h : total (strs x y (comps x y)) = 420 * (x + 1) := of_decide_eq_true (pairs_at all_total P.hx P.hy P.ht)
  have := P.hx
  exact P.sumOk.more (by have := P.len_is; omega) (ros_is P (fun e he => he)) (strs_nonneg P (fun e he => he)) (by omega)
theorem shs_is {x y a c : Int} (P : Pair x y a c) : shs (splitL x y a c) = ((comps x y).map fun e => shN a (gd x) c (gd y) e.1 e.2).map fun k => mkR k (shD (gd x) (gd y)) := by
  unfold shs splitL
  rw [List.map_map, List.map_map]
  refine List.map_congr_left fun e he => ?_
  simp only [Function.comp, spOf, shR]
  rw [mk_of (P.sm he)]
theorem Pair.spanOk {x y a c : Int} (P : Pair x y a c) : SpanOk (splitL x y a c) := by
  have hd := shD_bd (gd_bd P.hx) (gd_bd P.hy)
  refine ⟨shD (gd x) (gd y), _, ⟨by omega, by omega⟩, ?_, shs_is P⟩
  intro k hk
  obtain ⟨e, he, rfl⟩ := List.mem_map.1 hk
  have hb := P.bd he
  have h3 := shN_bd P.ha (gd_bd P.hx) P.hc (gd_bd P.hy) hb.1 hb.2.1
  omega
theorem Pair.spanOk1 {x y a c : Int} (P : Pair x y a c) : SpanOk (splitL x y a c ++ [⟨3, 3, 1, 7, 1, 3⟩]) := by
  have hd := shD_bd (gd_bd P.hx) (gd_bd P.hy)
  refine ⟨shD (gd x) (gd y) * 7, ((comps x y).map fun e => shN a (gd x) c (gd y) e.1 e.2 * 7) ++ [shD (gd x) (gd y)], ⟨by omega, by omega⟩, ?_, ?_⟩
  · intro k hk
    rcases List.mem_append.1 hk with hk | hk
    · obtain ⟨e, he, rfl⟩ := List.mem_map.1 hk
      have hb := P.bd he
      have h3 := shN_bd P.ha (gd_bd P.hx) P.hc (gd_bd P.hy) hb.1 hb.2.1
      omega
    · simp at hk; omega
  · have h := shs_is P
    unfold shs at h ⊢
    rw [List.map_append, h, List.map_append]
    congr 1
    · rw [List.map_map, List.map_map]
      refine List.map_congr_left fun e he => ?_
      simp only [Function.comp]
      exact mk_congr (by omega) (by omega) (by rw [Int.mul_assoc, Int.mul_comm (shD _ _) 7])
    · simp only [List.map_cons, List.map_nil]
      rw [show (⟨1, 7, true⟩ : Ro) = mkR 1 7 from rfl, mk_congr (a := 1) (b := 7) (c := shD (gd x) (gd y)) (d := shD (gd x) (gd y) * 7) (by omega) (by omega) (by omega)]
theorem sumOk_nil : SumOk [] := ⟨[], rfl, by simp, by simp [total]⟩
theorem sumOk_one : SumOk [⟨3, 3, 1, 7, 1, 3⟩] := ⟨[140], rfl, by simp, by simp [total]⟩
theorem spanOk_one : SpanOk [⟨3, 3, 1, 7, 1, 3⟩] := ⟨7, [1], by omega, by simp, rfl⟩
/-- what the draw of components may return -/
def DrawnL (l : List Sp) : Prop := l.length ≤ 20 ∧ ((SumOk l ∧ SpanOk l) ∨ (sumL l = bad ∧ spanL l = bad))
theorem spanOk_nil : SpanOk [] := ⟨1, [], by omega, by simp, rfl⟩
theorem drawn_bad {l : List Sp} (h : l.length ≤ 19) : DrawnL (l ++ [⟨4, 2, 0, 0, 0, 0⟩]) := ⟨by simp; omega, .inr ⟨sum_bad _ _ (by decide), span_bad _ _ (by decide)⟩⟩
theorem Pair.drawn {x y a c : Int} (P : Pair x y a c) : DrawnL (splitL x y a c) ∧ DrawnL (splitL x y a c ++ [⟨4, 2, 0, 0, 0, 0⟩]) ∧ DrawnL (splitL x y a c ++ [⟨3, 3, 1, 7, 1, 3⟩]) := by
  have h := P.len_is
  exact ⟨⟨by omega, .inl ⟨P.sumOk, P.spanOk⟩⟩, drawn_bad h.1, ⟨by simp; omega, .inl ⟨P.sumOk1, P.spanOk1⟩⟩⟩
theorem drawn_nil : DrawnL [] ∧ DrawnL ([] ++ [⟨4, 2, 0, 0, 0, 0⟩]) ∧ DrawnL ([] ++ [⟨3, 3, 1, 7, 1, 3⟩]) :=
  ⟨⟨by simp, .inl ⟨sumOk_nil, spanOk_nil⟩⟩, drawn_bad (by simp), ⟨by simp, .inl ⟨sumOk_one, spanOk_one⟩⟩⟩
/-! ### a normal pattern -/
theorem both_ends : pairs (fun x y => (comps x y).any (fun e => decide (e.1 - e.2 = 2)) && (comps x y).any (fun e => decide (e.1 - e.2 = -2))) = true := by decide +kernel
def absR (r : Ro) : Ro := if r.n < 0 then ⟨0 - r.n, r.d, true⟩ else r
theorem Pair.span_normal {x y a c : Int} (P : Pair x y a c) (hac : a * gd y = c * gd x) : ∃ w : Ro, w.ok = true ∧ spanL (splitL x y a c) = w ∧ addQ (absR (mkR a (gd x))) (absR (mkR a (gd x))) = w := by
  have hg := gd_bd P.hx
  have ha := P.ha
  have sa : Sm a (gd x) := ⟨by omega, by omega⟩
  have hlen := P.len_is
  have e1 : shs (splitL x y a c) = ((comps x y).map fun e => a * ((e.1 - e.2) / 2)).map fun k => mkR k (gd x) := by
    unfold shs
    refine List.ext_getElem (by simp [P.len]) ?_
    intro i h1 h2
    have hi : i < (splitL x y a c).length := by simpa using h1
    rw [List.getElem_map, List.getElem_map, List.getElem_map]
    have hn := P.normal hac hi
    rw [← hn]
    have hi' : i < (comps x y).length := by rw [← P.len]; exact hi
    rw [split_get hi hi']
    have hb := P.bd (List.getElem_mem hi')
    rw [show ((spOf x y a c (comps x y)[i]).u - (spOf x y a c (comps x y)[i]).l) / 2 = ((comps x y)[i].1 - (comps x y)[i].2) / 2 from rfl]
    generalize (comps x y)[i] = e at *
    have hk : -1 ≤ (e.1 - e.2) / 2 ∧ (e.1 - e.2) / 2 ≤ 1 := by omega
    rw [← mk_whole ((e.1 - e.2) / 2) (by omega), mul_mk sa ⟨by omega, by omega⟩, Int.mul_one]
  have hks : ∀ k ∈ (comps x y).map (fun e => a * ((e.1 - e.2) / 2)), k = -a ∨ k = 0 ∨ k = a := by
    intro k hk
    obtain ⟨e, he, rfl⟩ := List.mem_map.1 hk
    obtain ⟨_, _, _, _, h3 | h3 | h3⟩ := P.bd he
    · rw [h3]; left; simp
    · rw [h3]; right; left; simp
    · rw [h3]; right; right; simp
  have hb := pairs_at both_ends P.hx P.hy P.ht
  rw [Bool.and_eq_true] at hb
  obtain ⟨p1, q1, r1⟩ := List.any_eq_true.1 hb.1
  obtain ⟨p2, q2, r2⟩ := List.any_eq_true.1 hb.2
  have m1 : a ∈ (comps x y).map (fun e => a * ((e.1 - e.2) / 2)) := List.mem_map.2 ⟨p1, q1, by rw [of_decide_eq_true r1]; simp⟩
  have m2 : -a ∈ (comps x y).map (fun e => a * ((e.1 - e.2) / 2)) := List.mem_map.2 ⟨p2, q2, by rw [of_decide_eq_true r2]; simp⟩
  have hne : (comps x y).map (fun e => a * ((e.1 - e.2) / 2)) ≠ [] := fun h => by rw [h] at m1; cases m1
  generalize (comps x y).map (fun e => a * ((e.1 - e.2) / 2)) = ns at *
  cases ns with
  | nil => exact absurd rfl hne
  | cons n0 ns =>
    have hsm : ∀ k ∈ n0 :: ns, Sm k (gd x) := fun k hk => ⟨by rcases hks k hk with h | h | h <;> omega, by omega⟩
    have e : spanL (splitL x y a c) = mkR (hiI n0 (n0 :: ns) - loI n0 (n0 :: ns)) (gd x) := by
      unfold spanL
      rw [e1]
      exact span_mk (n0 :: ns) n0 n0 (hsm n0 (by simp)) (hsm n0 (by simp)) hsm
    have b1 := loI_le n0 (n0 :: ns)
    have b2 := hiI_le n0 (n0 :: ns)
    have c1 := b1.2.1 a m1
    have c2 := b1.2.1 (-a) m2
    have c3 := b2.2.1 a m1
    have c4 := b2.2.1 (-a) m2
    have d1 : loI n0 (n0 :: ns) = -a ∨ loI n0 (n0 :: ns) = 0 ∨ loI n0 (n0 :: ns) = a := by
      rcases b1.2.2 with h | h
      · rw [h]; exact hks n0 (by simp)
      · exact hks _ h
    have d2 : hiI n0 (n0 :: ns) = -a ∨ hiI n0 (n0 :: ns) = 0 ∨ hiI n0 (n0 :: ns) = a := by
      rcases b2.2.2 with h | h
      · rw [h]; exact hks n0 (by simp)
      · exact hks _ h
    have e2 : hiI n0 (n0 :: ns) - loI n0 (n0 :: ns) = (a.natAbs : Int) + a.natAbs := by omega
    rw [e2] at e
    have sN : Sm (a.natAbs : Int) (gd x) := ⟨by omega, by omega⟩
    have eabs : absR (mkR a (gd x)) = mkR (a.natAbs : Int) (gd x) := by
      unfold absR
      have h0 : (mkR a (gd x)).n < 0 ↔ a < 0 := by
        rw [mk_of sa]
        show nn a (gd x) < 0 ↔ a < 0
        have h1 := nn_mul (a := a) hg.1
        have h2 := gcd_pos (a := a) hg.1
        constructor
        · intro h
          have := Int.mul_neg_of_neg_of_pos (a := nn a (gd x)) (b := (Int.gcd a (gd x) : Int)) h (by omega)
          omega
        · intro h
          rcases Int.lt_or_le (nn a (gd x)) 0 with h3 | h3
          · exact h3
          · have := Int.mul_nonneg (a := nn a (gd x)) (b := (Int.gcd a (gd x) : Int)) h3 (by omega)
            omega
      by_cases ha0 : a < 0
      · rw [if_pos (h0.2 ha0), show (a.natAbs : Int) = -a by omega, mk_neg sa]
        congr 1; omega
      · rw [if_neg (fun h => ha0 (h0.1 h)), show (a.natAbs : Int) = a by omega]
    refine ⟨_, ?_, e, ?_⟩
    · rw [mk_of ⟨by omega, by omega⟩]
    · rw [eabs]; exact cadd sN sN
end Go.Proofs.YtpollgibgphipaaDoor.SplitP
