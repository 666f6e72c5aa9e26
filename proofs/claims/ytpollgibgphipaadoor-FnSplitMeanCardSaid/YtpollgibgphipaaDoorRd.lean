/-
  The reader of the draws: l6Open makes it, pick moves it and returns a number from 0 to n-1.
-/
import Derived.Test.YtpollgibgphipaaDoorChecked
import Derived.WalkKit
import Derived.ProofKit
import Derived.Lib.Hide
import Derived.Deep.QuietTactic
import Derived.BigQuiet
import Derived.WalkSmall
import Derived.OneCell
import Derived.OpenShut
namespace Go.Proofs.YtpollgibgphipaaDoor.Rd
open Go.RowKit
set_option linter.unusedVariables false
set_option linter.unusedSimpArgs false

theorem ret_int {k : IntKind} {a b : Int} (h : a = b) : Ending.returned (.int k a) = .returned (.int k b) := by rw [h]

/-- a slice of integers in memory: nil, or a row of cells -/
def IsRow (k : IntKind) (w : World) (a : Option Addr) (len cap : Nat) (zs : List Int) : Prop :=
  (a = none ∧ len = 0 ∧ cap = 0 ∧ zs = []) ∨
  ∃ x, a = some x ∧ len ≤ cap ∧ cap ≤ maxLen ∧ zs.length = cap ∧ (∀ i, i < zs.length → w.cell? (x.add i) = some (.int k (zs.getD i 0))) ∧ ∀ n ∈ zs, (Lit.int k n).wf = true

/-- the reader at block R: its bytes lie below R, its place is at most K -/
def Rd (w : World) (R : Nat) (K : Int) : Prop :=
  ∃ a n c zs p, w.heap[R]? = some (.cells #[.slice a n c, .int .i64 p] 77 (0, 0)) ∧ n ≤ 2000 ∧ 0 ≤ p ∧ p ≤ K ∧ IsRow .u8 w a n c zs ∧ ∀ x, a = some x → 0 < c → x.block < R

/-- only the reader has moved -/
def Moved (R : Nat) (K : Int) (w w' : World) : Prop := w.grownBy w' (some R) ∧ w'.heap.size = w.heap.size ∧ Rd w' R (K + 1)

theorem IsRow.below {k : IntKind} {w w' : World} {a : Option Addr} {n c : Nat} {zs : List Int} {B : Nat} (h : IsRow k w a n c zs) (hb : ∀ i, i < B → w'.heap[i]? = w.heap[i]?) (ha : ∀ x, a = some x → 0 < c → x.block < B) : IsRow k w' a n c zs := by
  rcases h with h | ⟨x, h1, h2, h3, h4, h5, h6⟩
  · exact .inl h
  · refine .inr ⟨x, h1, h2, h3, h4, fun i hi => ?_, h6⟩
    rw [← h5 i hi]
    exact World.cell?_of_block (hb _ (by have := ha x h1 (by omega); simp only [Addr.add]; split <;> exact this))

theorem IsRow.lt {k : IntKind} {w : World} {a : Option Addr} {n c : Nat} {zs : List Int} (h : IsRow k w a n c zs) : ∀ x, a = some x → 0 < c → x.block < w.heap.size := by
  rintro x rfl hc
  rcases h with ⟨h, _⟩ | ⟨y, h1, h2, h3, h4, h5, h6⟩
  · cases h
  · cases h1
    have := World.block_lt_of_cell? _ _ (h5 0 (by omega))
    simpa [Addr.add] using this

theorem Rd.below {w w' : World} {R : Nat} {K : Int} (h : Rd w R K) (hb : Below (R + 1) w w') : Rd w' R K := by
  obtain ⟨a, n, c, zs, p, h1, h2, h3, h4, h5, h6⟩ := h
  exact ⟨a, n, c, zs, p, by rw [hb.block R (by omega)]; exact h1, h2, h3, h4, h5.below (B := R) (fun i hi => hb.block i (by omega)) h6, h6⟩

theorem Rd.mono {w : World} {R : Nat} {K K' : Int} (h : Rd w R K) (hk : K ≤ K') : Rd w R K' := by
  obtain ⟨a, n, c, zs, p, h1, h2, h3, h4, h5⟩ := h
  exact ⟨a, n, c, zs, p, h1, h2, h3, by omega, h5⟩

theorem open_small (a : Option Addr) (n c : Nat) (w : World) (hn : n ≤ 2000) :
    Calls Tryd.prog 24 #[.slice a n c] w fun e w' => e = .returned (.pointer (some ⟨w.heap.size, 0, none⟩)) ∧ w' = w.alloc (.cells #[.slice a n c, .int .i64 0] 77) := by
  go_enter Tryd.func24, Tryd.ntmps24
  go_wp2
  go_ret
  exact ⟨rfl, rfl⟩

theorem open_big (x : Addr) (n c : Nat) (w : World) (hn : ¬ n ≤ 2000) (hc : n ≤ c) (hm : c ≤ 9223372036854775807) :
    Calls Tryd.prog 24 #[.slice (some x) n c] w fun e w' => e = .returned (.pointer (some ⟨w.heap.size, 0, none⟩)) ∧ w' = w.alloc (.cells #[.slice (some x) 2000 c, .int .i64 0] 77) := by
  go_enter Tryd.func24, Tryd.ntmps24
  go_wp2
  go_ret
  exact ⟨rfl, rfl⟩

/-- the reader that l6Open makes -/
def Opened (w : World) (e : Ending) (w' : World) : Prop := e = .returned (.pointer (some ⟨w.heap.size, 0, none⟩)) ∧ Below w.heap.size w w' ∧ w'.heap.size = w.heap.size + 1 ∧ Rd w' w.heap.size 0

theorem open_any (a : Option Addr) (n c : Nat) (zs : List Int) (w : World) (h : IsRow .u8 w a n c zs) :
    Calls Tryd.prog 24 #[.slice a n c] w (Opened w) := by
  have hx := h.lt
  have key : ∀ (m : Nat), m ≤ n → m ≤ 2000 → IsRow .u8 (w.alloc (.cells #[.slice a m c, .int .i64 0] 77)) a m c zs → Opened w (.returned (.pointer (some ⟨w.heap.size, 0, none⟩))) (w.alloc (.cells #[.slice a m c, .int .i64 0] 77)) := by
    intro m _ hm hr
    refine ⟨rfl, (Below.refl _ _).alloc (Nat.le_refl _) _, by simp, a, m, c, zs, 0, by show (w.heap.push _)[w.heap.size]? = _; simp, hm, by omega, by omega, hr, hx⟩
  have up : ∀ (m : Nat), IsRow .u8 w a m c zs → IsRow .u8 (w.alloc (.cells #[.slice a m c, .int .i64 0] 77)) a m c zs := fun m h => h.below (fun i hi => Below.heap_alloc _ _ _ hi) hx
  by_cases hn : n ≤ 2000
  · refine (open_small a n c w hn).mono ?_
    rintro e w' ⟨rfl, rfl⟩
    exact key n (Nat.le_refl _) hn (up n h)
  · rcases h with ⟨rfl, rfl, rfl, rfl⟩ | ⟨x, rfl, h2, h3, h4, h5, h6⟩
    · omega
    · have h3' := h3
      unfold maxLen at h3'
      refine (open_big x n c w hn h2 h3').mono ?_
      rintro e w' ⟨rfl, rfl⟩
      exact key 2000 (by omega) (by omega) (up 2000 (.inr ⟨x, rfl, by omega, h3, h4, h5, h6⟩))

theorem xor_nonneg (a b : Int) (a0 : 0 ≤ a) (a1 : a < 4611686018427387904) (b0 : 0 ≤ b) (b1 : b < 4611686018427387904) : 0 ≤ bits .xor .i64 a b := by
  obtain ⟨a, rfl⟩ := Int.eq_ofNat_of_zero_le a0
  obtain ⟨b, rfl⟩ := Int.eq_ofNat_of_zero_le b0
  have hx : a ^^^ b < 2 ^ 62 := Nat.xor_lt_two_pow (by omega) (by omega)
  have h1 : (BitVec.ofInt 64 (a : Int)).toNat = a := by
    rw [BitVec.ofInt_natCast, BitVec.toNat_ofNat]; exact Nat.mod_eq_of_lt (by omega)
  have h2 : (BitVec.ofInt 64 (b : Int)).toNat = b := by
    rw [BitVec.ofInt_natCast, BitVec.toNat_ofNat]; exact Nat.mod_eq_of_lt (by omega)
  show 0 ≤ IntKind.i64.wrap ((BitVec.ofInt 64 (a : Int) ^^^ BitVec.ofInt 64 (b : Int)).toNat : Int)
  rw [BitVec.toNat_xor, h1, h2]
  simp [IntKind.wrap, IntKind.bits, IntKind.signed]
  omega

theorem mix_bounds (x m : Int) (x0 : 0 ≤ x) (x1 : x < 4611686018427387904) (m0 : 1 ≤ m) : 0 ≤ (bits .xor .i64 x (x / 64)).tmod m ∧ (bits .xor .i64 x (x / 64)).tmod m < m := by
  have h := xor_nonneg x (x / 64) x0 x1 (by omega) (by omega)
  exact ⟨Int.tmod_nonneg _ h, Int.tmod_lt_of_pos _ (by omega)⟩

theorem pick_nil (R : Nat) (c : Nat) (a : Option Addr) (p m : Int) (w : World) (h0 : w.cell? ⟨R, 0, none⟩ = some (.slice a 0 c)) (h1 : w.cell? ⟨R, 1, none⟩ = some (.int .i64 p)) (hf : w.frozen? ⟨R, 1, none⟩ = false) (p0 : 0 ≤ p) (p1 : p ≤ 1000000000) (m0 : 1 ≤ m) :
    Calls Tryd.prog 44 #[.pointer (some ⟨R, 0, none⟩), .int .i64 m] w fun e w' => e = .returned (.int .i64 0) ∧ w' = w.setCell ⟨R, 1, none⟩ (.int .i64 (p + 1)) := by
  go_enter Tryd.func44, Tryd.ntmps44
  go_wp2
  go_ret
  exact ⟨rfl, rfl⟩

theorem pick_in (R : Nat) (n c : Nat) (b off : Nat) (p m z : Int) (w : World) (h0 : w.cell? ⟨R, 0, none⟩ = some (.slice (some ⟨b, off, none⟩) n c)) (h1 : w.cell? ⟨R, 1, none⟩ = some (.int .i64 p)) (hf : w.frozen? ⟨R, 1, none⟩ = false)
    (hx : ¬ b = R) (hz : w.cell? ⟨b, off + p.toNat, none⟩ = some (.int .u8 z)) (z0 : 0 ≤ z) (z1 : z ≤ 255) (p0 : 0 ≤ p) (p1 : p < n) (n1 : n ≤ 2000) (m0 : 1 ≤ m) :
    Calls Tryd.prog 44 #[.pointer (some ⟨R, 0, none⟩), .int .i64 m] w fun e w' => e = .returned (.int .i64 (z % m)) ∧ w' = w.setCell ⟨R, 1, none⟩ (.int .i64 (p + 1)) := by
  have hne : ¬ n = 0 := by omega
  have hne' : ¬ (n : Int) = 0 := by omega
  have hn0 : ((n : Int) == 0) = false := beq_eq_false_iff_ne.2 (by omega)
  have hm0 : decide (m < 1) = false := by simp; omega
  go_enter Tryd.func44, Tryd.ntmps44
  go_wp2
  go_ret
  exact ⟨rfl, rfl⟩

theorem pick_mix (R : Nat) (n c : Nat) (b off : Nat) (p m z y : Int) (w : World) (h0 : w.cell? ⟨R, 0, none⟩ = some (.slice (some ⟨b, off, none⟩) n c)) (h1 : w.cell? ⟨R, 1, none⟩ = some (.int .i64 p)) (hf : w.frozen? ⟨R, 1, none⟩ = false)
    (hx : ¬ b = R) (hz : w.cell? ⟨b, off + (p % n).toNat, none⟩ = some (.int .u8 z)) (z0 : 0 ≤ z) (z1 : z ≤ 255) (hy : w.cell? ⟨b, off + ((p * 7 + 3) % n).toNat, none⟩ = some (.int .u8 y)) (y0 : 0 ≤ y) (y1 : y ≤ 255)
    (p0 : n ≤ p) (p1 : p ≤ 1000000000) (n0 : 1 ≤ n) (n1 : n ≤ 2000) (m0 : 1 ≤ m) :
    Calls Tryd.prog 44 #[.pointer (some ⟨R, 0, none⟩), .int .i64 m] w fun e w' => ∃ v, 0 ≤ v ∧ v < m ∧ e = .returned (.int .i64 v) ∧ ∃ k, w' = (w.setCell ⟨R, 1, none⟩ (.int .i64 (p + 1))).drewN k := by
  have hne : ¬ n = 0 := by omega
  have hne' : ¬ (n : Int) = 0 := by omega
  have hn0 : ((n : Int) == 0) = false := beq_eq_false_iff_ne.2 (by omega)
  have hm0 : decide (m < 1) = false := by simp; omega
  have q0 : 0 ≤ p % n := Int.emod_nonneg _ (by omega)
  have q1 : p % n < n := Int.emod_lt_of_pos _ (by omega)
  have s0 : 0 ≤ p / n := Int.ediv_nonneg (by omega) (by omega)
  have s1 : p / n ≤ 1000000000 := Int.le_trans (Int.ediv_le_self _ (by omega)) p1
  have r0 : 0 ≤ (p * 7 + 3) % n := Int.emod_nonneg _ (by omega)
  have r1 : (p * 7 + 3) % n < n := Int.emod_lt_of_pos _ (by omega)
  go_enter Tryd.func44, Tryd.ntmps44
  go_wp2
  go_quiet (fail)
  go_wp2
  go_ret
  have hb := mix_bounds (z * 131 + y * 1117 + p * 29 + p / n * 53) m (by omega) (by omega) m0
  exact ⟨_, hb.1, hb.2, rfl, _, rfl⟩

theorem two_setCell {w : World} {b : Nat} {u v x : Value} {t : TypeId} (h : w.heap[b]? = some (.cells #[u, v] t (0, 0))) : (w.setCell ⟨b, 1, none⟩ x).heap[b]? = some (.cells #[u, x] t (0, 0)) := by
  have hlt := lt_of_block h
  have h' : w.heap[b] = .cells #[u, v] t (0, 0) := by simpa [Array.getElem?_eq_getElem hlt] using h
  show (w.heap.modify b _)[b]? = _
  rw [Array.getElem?_eq_getElem (by simpa using hlt), Array.getElem_modify_self, h']
  rfl

theorem Rd.lt {w : World} {R : Nat} {K : Int} (h : Rd w R K) : R < w.heap.size := by
  obtain ⟨a, n, c, zs, p, h1, _⟩ := h
  exact lt_of_block h1

theorem Moved.rd {w w' : World} {R : Nat} {K : Int} (h : Moved R K w w') : Rd w' R (K + 1) := h.2.2

theorem Moved.below {w w' : World} {R B : Nat} {K : Int} (h : Moved R K w w') (hB : B ≤ R) : Below B w w' := by
  have := h.2.2.lt
  have hs := h.2.1
  exact ⟨h.1.os, h.1.tape, h.1.output, h.1.size, fun k hk => h.1.block k (by omega) (by simp; omega)⟩

theorem Moved.block {w w' : World} {R : Nat} {K : Int} (h : Moved R K w w') {i : Nat} (hi : i ≠ R) : w'.heap[i]? = w.heap[i]? := by
  by_cases hs : i < w.heap.size
  · exact h.1.block i hs (fun e => hi (by injection e))
  · have hz := h.2.1
    rw [Array.getElem?_eq_none (by omega), Array.getElem?_eq_none (by omega)]

theorem Moved.cell {w w' : World} {R : Nat} {K : Int} (h : Moved R K w w') {i : Nat} (hi : i ≠ R) (o : Nat) : w'.cell? ⟨i, o, none⟩ = w.cell? ⟨i, o, none⟩ := World.cell?_of_block (h.block hi)

theorem Rd.alloc {w : World} {R : Nat} {K : Int} (h : Rd w R K) (o : Obj) : Rd (w.alloc o) R K := h.below ((Below.refl _ _).alloc (by have := h.lt; omega) o)

theorem Rd.drew {w : World} {R : Nat} {K : Int} (h : Rd w R K) : Rd w.drew R K := h.below ((Below.refl _ _).drew)

theorem Rd.setCell {w : World} {R : Nat} {K : Int} (h : Rd w R K) {p : Addr} (hp : R < p.block) (u : Value) : Rd (w.setCell p u) R K := h.below ((Below.refl _ _).setCell (by omega) u)

theorem mcell {W w1 : World} {R : Nat} {K : Int} (h : Moved R K W w1) : (∀ b o, ¬ b = R → w1.cell? ⟨b, o, none⟩ = W.cell? ⟨b, o, none⟩) ∧ (∀ b o, ¬ b = R → w1.frozen? ⟨b, o, none⟩ = W.frozen? ⟨b, o, none⟩) :=
  ⟨fun b o hb => World.cell?_of_block (h.block hb), fun b o hb => World.frozen?_of_block (h.block hb)⟩

/-- what pick returns: a number from 0 to m-1; only the reader has moved -/
def Picked (R : Nat) (K m : Int) (w : World) (e : Ending) (w' : World) : Prop := ∃ v, 0 ≤ v ∧ v < m ∧ e = .returned (.int .i64 v) ∧ Moved R K w w'

theorem moved_of {w w' : World} {R : Nat} {K : Int} {a : Option Addr} {n c : Nat} {zs : List Int} {p : Int} (h1 : w.heap[R]? = some (.cells #[.slice a n c, .int .i64 p] 77 (0, 0))) (hn : n ≤ 2000) (p0 : 0 ≤ p) (pK : p ≤ K) (hr : IsRow .u8 w a n c zs) (hx : ∀ x, a = some x → 0 < c → x.block < R)
    (hw : ∃ k, w' = (w.setCell ⟨R, 1, none⟩ (.int .i64 (p + 1))).drewN k) : Moved R K w w' := by
  obtain ⟨k, rfl⟩ := hw
  have hs : (w.setCell ⟨R, 1, none⟩ (.int .i64 (p + 1))).heap.size = w.heap.size := by simp [World.setCell]
  have hb : ∀ i, i ≠ R → ((w.setCell ⟨R, 1, none⟩ (.int .i64 (p + 1))).drewN k).heap[i]? = w.heap[i]? := fun i hi => Below.heap_setCell w ⟨R, 1, none⟩ _ i hi
  refine ⟨⟨rfl, rfl, rfl, by rw [World.heap_drewN, hs]; exact Nat.le_refl _, fun i _ hne => hb i (fun e => hne (by rw [e]))⟩, by rw [World.heap_drewN, hs], a, n, c, zs, p + 1, two_setCell h1, hn, by omega, by omega, hr.below (B := R) (fun i hi => hb i (by omega)) hx, hx⟩

theorem pick_any (R : Nat) (K m : Int) (w : World) (h : Rd w R K) (hK : K ≤ 1000000000) (m0 : 1 ≤ m) :
    Calls Tryd.prog 44 #[.pointer (some ⟨R, 0, none⟩), .int .i64 m] w (Picked R K m w) := by
  obtain ⟨a, n, c, zs, p, h1, h2, h3, h4, h5, h6⟩ := h
  have c0 : w.cell? ⟨R, 0, none⟩ = some (.slice a n c) := by simp [World.cell?, h1]
  have c1 : w.cell? ⟨R, 1, none⟩ = some (.int .i64 p) := by simp [World.cell?, h1]
  have hf : w.frozen? ⟨R, 1, none⟩ = false := by simp [World.frozen?, h1]
  have fin : ∀ w', (∃ k, w' = (w.setCell ⟨R, 1, none⟩ (.int .i64 (p + 1))).drewN k) → Moved R K w w' := fun w' hw => moved_of h1 h2 h3 h4 h5 h6 hw
  by_cases hn : n = 0
  · subst hn
    refine (pick_nil R c a p m w c0 c1 hf h3 (by omega) m0).mono ?_
    rintro e w' ⟨rfl, rfl⟩
    exact ⟨0, by omega, by omega, rfl, fin _ ⟨0, rfl⟩⟩
  · rcases h5 with ⟨rfl, rfl, rfl, rfl⟩ | ⟨x, rfl, g2, g3, g4, g5, g6⟩
    · omega
    · obtain ⟨b, off, rfl, gc⟩ := ints_at g5 (by omega)
      have hb : b < R := h6 _ rfl (by omega)
      have gz : ∀ j, j < n → ∃ z, w.cell? ⟨b, off + j, none⟩ = some (.int .u8 z) ∧ 0 ≤ z ∧ z ≤ 255 := by
        intro j hj
        refine ⟨_, gc j (by omega), ?_⟩
        have hm : zs.getD j 0 ∈ zs := by
          rw [List.getD_eq_getElem?_getD, List.getElem?_eq_getElem (by omega)]
          exact List.getElem_mem _
        have := g6 _ hm
        simpa [Lit.wf, IntKind.min, IntKind.max, IntKind.signed, IntKind.bits] using this
      by_cases hp : p < n
      · obtain ⟨z, hz, z0, z1⟩ := gz p.toNat (by omega)
        refine (pick_in R n c b off p m z w c0 c1 hf (by omega) hz z0 z1 h3 hp h2 m0).mono ?_
        rintro e w' ⟨rfl, rfl⟩
        exact ⟨z % m, Int.emod_nonneg _ (by omega), Int.emod_lt_of_pos _ (by omega), rfl, fin _ ⟨0, rfl⟩⟩
      · have q1 : p % n < n := Int.emod_lt_of_pos _ (by omega)
        have q0 : 0 ≤ p % n := Int.emod_nonneg _ (by omega)
        have r1 : (p * 7 + 3) % n < n := Int.emod_lt_of_pos _ (by omega)
        have r0 : 0 ≤ (p * 7 + 3) % n := Int.emod_nonneg _ (by omega)
        obtain ⟨z, hz, z0, z1⟩ := gz (p % n).toNat (by omega)
        obtain ⟨y, hy, y0, y1⟩ := gz ((p * 7 + 3) % n).toNat (by omega)
        refine (pick_mix R n c b off p m z y w c0 c1 hf (by omega) hz z0 z1 hy y0 y1 (by omega) (by omega) (by omega) h2 m0).mono ?_
        rintro e w' ⟨v, v0, v1, rfl, hw⟩
        exact ⟨v, v0, v1, rfl, fin _ hw⟩

end Go.Proofs.YtpollgibgphipaaDoor.Rd
