/- Values of nodes of graphs, in words and in bits, plainly. -/
import Derived.Test.YtiecnmojbdogfaaLwBit
import Derived.Test.YtiecnmojbdogfaaLwLevel
import Derived.Test.YtiecnmojbdogfaaLwGraph
set_option linter.unusedSimpArgs false
set_option linter.unusedVariables false
namespace Go.Ab
open Go
def term (x : Nat → Int) (r : Nat) : Nat → Int
  | 0 => 18446744073709551615
  | i + 1 => if bitop .and .i64 ((r : Int).fdiv (2 ^ (min i 64))) 1 = 1 then bitop .and .u64 (term x r i) (x i) else bitop .andNot .u64 (term x r i) (x i)
def accL (t : Int) (n : Nat) (x : Nat → Int) : Nat → Int
  | 0 => 0
  | r + 1 => if bitop .and .u64 (t.fdiv (2 ^ (min r 64))) 1 = 0 then accL t n x r else bitop .or .u64 (accL t n x r) (term x r n)
def lookF (t : Int) (n : Nat) (x : Nat → Int) : Int := if n ≤ 6 then accL t n x (2 ^ n) else 0
def colB (x : Nat → Int) (j : Int) (i : Nat) : Prop := bitop .and .u64 ((x i).fdiv (2 ^ min j.toNat 64)) 1 = 1
instance (x : Nat → Int) (j : Int) (i : Nat) : Decidable (colB x j i) := by unfold colB; infer_instance

theorem u64_term (x : Nat → Int) (r i : Nat) : U64 (term x r i) := by
  cases i with
  | zero => exact (show U64 18446744073709551615 from ⟨by decide, by decide⟩)
  | succ i =>
    simp only [term]
    split
    · exact u64_and _ _
    · exact u64_andNot _ _
theorem u64_accL (t : Int) (n : Nat) (x : Nat → Int) (r : Nat) : U64 (accL t n x r) := by
  induction r with
  | zero => exact (show U64 0 from ⟨by decide, by decide⟩)
  | succ r ih =>
    simp only [accL]
    split
    · exact ih
    · exact u64_or _ _
theorem u64_lookF (t : Int) (n : Nat) (x : Nat → Int) : U64 (lookF t n x) := by
  unfold lookF; split
  · exact u64_accL _ _ _ _
  · exact ⟨by decide, by decide⟩

theorem bit_term (x : Nat → Int) (r k : Nat) (hk : k < 64) (hr : r < 9223372036854775808) : ∀ i, i ≤ 63 → (bit (term x r i) k = true ↔ ∀ j, j < i → r.testBit j = bit (x j) k)
  | 0, _ => by simp [term, bit_ones k hk]
  | i + 1, hi => by
    have ih := bit_term x r k hk hr i (by omega)
    simp only [term]
    rw [shift_and_one_i64 r hr i (by omega)]
    have key : (∀ j, j < i + 1 → r.testBit j = bit (x j) k) ↔ ((∀ j, j < i → r.testBit j = bit (x j) k) ∧ r.testBit i = bit (x i) k) :=
      ⟨fun h => ⟨fun j hj => h j (by omega), h i (by omega)⟩, fun h j hj => by
        rcases Nat.lt_or_ge j i with h1 | h1
        · exact h.1 j h1
        · obtain rfl : j = i := by omega
          exact h.2⟩
    rw [key, ← ih]
    cases hb : r.testBit i with
    | true => simp [bit_and]
    | false => simp [bit_andNot _ _ k hk]

theorem bit_accL {t : Int} (ht : U64 t) (n : Nat) (hn : n ≤ 63) (x : Nat → Int) (k : Nat) (hk : k < 64) : ∀ R, R ≤ 64 → (bit (accL t n x R) k = true ↔ ∃ r, r < R ∧ bit t r = true ∧ ∀ j, j < n → r.testBit j = bit (x j) k)
  | 0, _ => by simp [accL, bit_zero]
  | R + 1, hR => by
    have ih := bit_accL ht n hn x k hk R (by omega)
    simp only [accL]
    rw [shift_and_one ht R (by omega)]
    have key : (∃ r, r < R + 1 ∧ bit t r = true ∧ ∀ j, j < n → r.testBit j = bit (x j) k) ↔ ((∃ r, r < R ∧ bit t r = true ∧ ∀ j, j < n → r.testBit j = bit (x j) k) ∨ (bit t R = true ∧ ∀ j, j < n → R.testBit j = bit (x j) k)) := by
      constructor
      · rintro ⟨r, h1, h2⟩
        rcases Nat.lt_or_ge r R with h | h
        · exact .inl ⟨r, h, h2⟩
        · obtain rfl : r = R := by omega
          exact .inr h2
      · rintro (⟨r, h1, h2⟩ | h)
        · exact ⟨r, by omega, h2⟩
        · exact ⟨R, by omega, h⟩
    rw [key, ← ih, ← bit_term x R k hk (by omega) n hn]
    cases hb : bit t R with
    | true => simp [bit_or]
    | false => simp

def rowS (x : Nat → Int) (k : Nat) : Nat → Nat
  | 0 => 0
  | i + 1 => rowS x k i + if bit (x i) k = true then 2 ^ i else 0
theorem rowS_lt (x : Nat → Int) (k : Nat) : ∀ n, rowS x k n < 2 ^ n
  | 0 => by simp [rowS]
  | n + 1 => by
    have := rowS_lt x k n
    simp only [rowS, Nat.pow_succ]
    split <;> omega
theorem rowS_bit (x : Nat → Int) (k : Nat) : ∀ n j, (rowS x k n).testBit j = (decide (j < n) && bit (x j) k)
  | 0, j => by simp [rowS]
  | n + 1, j => by
    have ih := rowS_bit x k n j
    have hlt := rowS_lt x k n
    simp only [rowS]
    cases hb : bit (x n) k with
    | false =>
      simp only [Bool.false_eq_true, if_false, Nat.add_zero, ih]
      by_cases h : j = n
      · subst h; simp [hb]
      · have : (j < n + 1) ↔ j < n := by omega
        simp [this]
    | true =>
      simp only [if_true]
      rw [Nat.add_comm, ← Nat.mul_one (2 ^ n), Nat.testBit_two_pow_mul_add 1 hlt j]
      by_cases h : j < n
      · simp [h, ih, show j < n + 1 by omega]
      · by_cases h2 : j = n
        · subst h2; simp [hb]
        · have h3 : ¬ j < n + 1 := by omega
          have h4 : ∃ q, j - n = q + 1 := ⟨j - n - 1, by omega⟩
          obtain ⟨q, hq⟩ := h4
          simp [h, h3, hq, Nat.testBit_add_one]
theorem bit_lookF {t : Int} (ht : U64 t) (n : Nat) (hn : n ≤ 6) (x : Nat → Int) (k : Nat) (hk : k < 64) : bit (lookF t n x) k = bit t (rowS x k n) := by
  have h2 : 2 ^ n ≤ 64 := by
    have := Nat.pow_le_pow_right (show 0 < 2 by decide) hn
    simpa using this
  unfold lookF
  rw [if_pos hn, Bool.eq_iff_iff, bit_accL ht n (by omega) x k hk (2 ^ n) h2]
  constructor
  · rintro ⟨r, h1, h3, h4⟩
    have : r = rowS x k n := by
      apply Nat.eq_of_testBit_eq
      intro j
      rw [rowS_bit]
      by_cases hj : j < n
      · rw [h4 j hj]; simp [hj]
      · simp only [hj, decide_false, Bool.false_and]
        exact Nat.testBit_lt_two_pow (Nat.lt_of_lt_of_le h1 (Nat.pow_le_pow_right (by decide) (by omega)))
    rw [← this]; exact h3
  · intro h
    refine ⟨rowS x k n, rowS_lt x k n, h, fun j hj => ?_⟩
    rw [rowS_bit]; simp [hj]
theorem colB_iff {x : Nat → Int} {z i : Nat} (hz : z < 64) (hx : U64 (x i)) : colB x z i ↔ bit (x i) z = true := by
  unfold colB
  rw [Int.toNat_natCast, shift_and_one hx z hz]
  cases bit (x i) z <;> simp
/-- What the look law says at one place. -/
theorem look_place {t : Int} (ht : U64 t) (n : Nat) (hn : n ≤ 6) (x : Nat → Int) (k : Nat) (hk : k < 64) : bitop .and .u64 ((lookF t n x).fdiv (2 ^ min k 64)) 1 = bitop .and .u64 (t.fdiv (2 ^ min (rowS x k n) 64)) 1 := by
  have h1 := rowS_lt x k n
  have h2 : 2 ^ n ≤ 64 := by
    have := Nat.pow_le_pow_right (show 0 < 2 by decide) hn
    simpa using this
  rw [shift_and_one (u64_lookF t n x) k hk, shift_and_one ht _ (by omega), bit_lookF ht n hn x k hk]
theorem rowS_step {x : Nat → Int} {z q n : Nat} (hn : n ≤ 6) (hq : q < n) (h : bit (x q) z = true) : IntKind.i64.wrap ((rowS x z q : Nat) + IntKind.i64.wrap (1 * 2 ^ min q 64)) = (rowS x z (q + 1) : Nat) := by
  have h1 := rowS_lt x z q
  have h2 : 2 ^ q ≤ 64 := by
    have := Nat.pow_le_pow_right (show 0 < 2 by decide) (show q ≤ 6 by omega)
    simpa using this
  have e : (1 : Int) * 2 ^ min q 64 = ((2 ^ q : Nat) : Int) := by rw [show min q 64 = q by omega]; simp
  rw [e, wI (n := ((2 ^ q : Nat) : Int)) (by omega) (by omega)]
  simp only [rowS, h, if_true]
  rw [wI (by omega) (by omega)]; omega
end Go.Ab
namespace Go.Ab
open Go
noncomputable def widthF (N : Net) (n1 n2 : Nat) : Int := if formF N ≠ 0 then formF N else if n1 ≠ N.ni ∨ n2 ≠ N.nf then 20 else 0
def ones : Int := 18446744073709551615
def wBase (ni : Nat) (x y : Nat → Int) (k : Nat) : Int := if k = 0 then 0 else if k = 1 then ones else if k < 2 + ni then x (k - 2) else y (k - 2 - ni)
def bBase (ni : Nat) (x y : Nat → Bool) (k : Nat) : Bool := if k = 0 then false else if k = 1 then true else if k < 2 + ni then x (k - 2) else y (k - 2 - ni)
/-- The words of nets behind the first i gates. -/
def wv (N : Net) (x y : Nat → Int) : Nat → Nat → Int
  | 0, k => wBase N.ni x y k
  | i + 1, k => if k = N.first + i then lookF (N.gate i).table (N.gate i).n (fun j => wv N x y i ((N.gate i).ins j).toNat) else wv N x y i k
def rowB (b : Nat → Bool) : Nat → Nat
  | 0 => 0
  | n + 1 => rowB b n + if b n = true then 2 ^ n else 0
def tabB (t : Int) (r : Nat) : Bool := decide (bitop .and .u64 (t.fdiv (2 ^ min r 64)) 1 = 1)
/-- The bits of nets behind the first i gates. -/
def bv (N : Net) (x y : Nat → Bool) : Nat → Nat → Bool
  | 0, k => bBase N.ni x y k
  | i + 1, k => if k = N.first + i then tabB (N.gate i).table (rowB (fun j => bv N x y i ((N.gate i).ins j).toNat) (N.gate i).n) else bv N x y i k
theorem rowB_lt (b : Nat → Bool) : ∀ n, rowB b n < 2 ^ n
  | 0 => by simp [rowB]
  | n + 1 => by
    have := rowB_lt b n
    simp only [rowB, Nat.pow_succ]
    split <;> omega
theorem rowB_rowS {x : Nat → Int} {z : Nat} {b : Nat → Bool} : ∀ n, (∀ j, j < n → b j = bit (x j) z) → rowB b n = rowS x z n
  | 0, _ => rfl
  | n + 1, h => by simp only [rowB, rowS, rowB_rowS n fun j hj => h j (by omega), h n (by omega)]
theorem tabB_bit {t : Int} (ht : U64 t) {r : Nat} (hr : r < 64) : tabB t r = bit t r := by
  unfold tabB
  rw [shift_and_one ht r hr]
  cases bit t r <;> rfl
theorem u64_wv {N : Net} {x y : Nat → Int} (hx : ∀ k, U64 (x k)) (hy : ∀ k, U64 (y k)) : ∀ i k, U64 (wv N x y i k)
  | 0, k => by
    simp only [wv, wBase]
    split
    · exact ⟨by decide, by decide⟩
    · split
      · exact ⟨by decide, by decide⟩
      · split
        · exact hx _
        · exact hy _
  | i + 1, k => by
    simp only [wv]
    split
    · exact u64_lookF _ _ _
    · exact u64_wv hx hy i k
/-- **In each lane, the words are the bits.** -/
theorem lane {N : Net} (g : N.Good) (ok : N.Ok) {x y : Nat → Int} {z : Nat} (hz : z < 64) : ∀ i, i ≤ N.ng → ∀ k, bit (wv N x y i k) z = bv N (fun j => bit (x j) z) (fun j => bit (y j) z) i k
  | 0, _, k => by
    simp only [wv, bv, wBase, bBase]
    split
    · exact bit_zero z
    · split
      · exact bit_ones z hz
      · split <;> rfl
  | i + 1, hi, k => by
    have ih := lane g ok (x := x) (y := y) hz i (by omega)
    simp only [wv, bv]
    split
    · have h6 := (g.ins i (by omega)).1
      have ht := (ok.gate i (by omega)).2.2.1
      rw [bit_lookF ht _ h6 _ z hz]
      have hr : rowB (fun j => bv N (fun j => bit (x j) z) (fun j => bit (y j) z) i ((N.gate i).ins j).toNat) (N.gate i).n = rowS (fun j => wv N x y i ((N.gate i).ins j).toNat) z (N.gate i).n :=
        rowB_rowS _ fun j hj => (ih _).symm
      rw [hr, tabB_bit ht]
      have h1 := rowS_lt (fun j => wv N x y i ((N.gate i).ins j).toNat) z (N.gate i).n
      have h2 : 2 ^ (N.gate i).n ≤ 64 := by
        have := Nat.pow_le_pow_right (show 0 < 2 by decide) h6
        simpa using this
      omega
    · exact ih k
def nextW (N : Net) (v : Nat → Int) (i : Nat) : Int :=
  bitop .or .u64 (bitop .and .u64 (v (N.flop i).en.toNat) (v (N.flop i).d.toNat)) (bitop .and .u64 (bitop .xor .u64 ones (v (N.flop i).en.toNat)) (v (2 + N.ni + i)))
def nextB (N : Net) (v : Nat → Bool) (i : Nat) : Bool := if v (N.flop i).en.toNat = true then v (N.flop i).d.toNat else v (2 + N.ni + i)
theorem bit_not (a : Int) (k : Nat) (hk : k < 64) : bit (bitop .xor .u64 ones a) k = !bit a k := by
  have h1 : bit (bitop .xor .u64 ones a) k = Bool.xor (bit ones k) (bit a k) := by
    simp only [bit, bitop]
    rw [show IntKind.u64.bits = 64 from rfl, ofInt_toNat]
    simp
  rw [h1, show ones = 18446744073709551615 from rfl, bit_ones k hk]
  simp
theorem lane_next {N : Net} {v : Nat → Int} {w : Nat → Bool} {z : Nat} (hz : z < 64) (h : ∀ k, bit (v k) z = w k) (i : Nat) : bit (nextW N v i) z = nextB N w i := by
  simp only [nextW, nextB, bit_or, bit_and, bit_not _ z hz, h]
  cases w (N.flop i).en.toNat <;> simp
theorem u64_nextW (N : Net) (v : Nat → Int) (i : Nat) : U64 (nextW N v i) := u64_or _ _
theorem or_step {q r : Nat} (hq : q < 6) (hr : r < 2 ^ q) : bitop .or .i64 (r : Int) (IntKind.i64.wrap (1 * 2 ^ min q 64)) = ((r + 2 ^ q : Nat) : Int) := by
  have h : ∀ q : Nat, q < 6 → ∀ r : Nat, r < 32 → r < 2 ^ q → bitop .or .i64 (r : Int) (IntKind.i64.wrap (1 * 2 ^ min q 64)) = ((r + 2 ^ q : Nat) : Int) := by decide +kernel
  refine h q hq r ?_ hr
  have := Nat.pow_le_pow_right (show 0 < 2 by decide) (show q ≤ 5 by omega)
  simp at this
  omega
/-- Lists laid end to end. -/
def pre (n : Nat → Nat) : Nat → Nat
  | 0 => 0
  | k + 1 => pre n k + n k
def cat (n : Nat → Nat) (f : Nat → Nat → AV) : Nat → Nat → AV
  | 0, _ => .undef
  | k + 1, j => if j < pre n k then cat n f k j else f k (j - pre n k)
theorem pre_le (n : Nat → Nat) {i : Nat} : ∀ k, i ≤ k → pre n i ≤ pre n k
  | 0, h => by obtain rfl : i = 0 := by omega
               exact Nat.le_refl _
  | k + 1, h => by
    by_cases e : i = k + 1
    · rw [e]; exact Nat.le_refl _
    · have := pre_le n k (show i ≤ k by omega)
      simp only [pre]; omega
end Go.Ab
namespace Go.Ab
open Go
def laneW (b : Bool) : Int := if b = true then 1 else 0
theorem u64_laneW (b : Bool) : U64 (laneW b) := by cases b <;> exact ⟨by decide, by decide⟩
theorem bit_laneW (b : Bool) : bit (laneW b) 0 = b := by cases b <;> decide
theorem and_one_w {a : Int} (ha : U64 a) : decide (bitop .and .u64 a 1 = 1) = bit a 0 := by
  have h := shift_and_one ha 0 (by decide)
  have e : a.fdiv (2 ^ min 0 64) = a := by simp
  rw [e] at h
  rw [h]
  cases bit a 0 <;> rfl
def traceAt (L : Nat → Nat) (ni : Nat) (i : Nat) : Int := if L i ≠ ni then 20 else 0
def traceF (T : Nat) (L : Nat → Nat) (ni : Nat) : Int := if 64 < T then 3 else scan (traceAt L ni) T
theorem traceF_zero {T : Nat} {L : Nat → Nat} {ni : Nat} (h : traceF T L ni = 0) : T ≤ 64 ∧ ∀ i, i < T → L i = ni := by
  unfold traceF at h
  split at h
  · cases h
  · refine ⟨by omega, fun i hi => ?_⟩
    have := scan_zero h i hi
    unfold traceAt at this
    split at this
    · cases this
    · rename_i h2; exact Classical.not_not.1 h2
noncomputable def runF (N : Net) (T : Nat) (L : Nat → Nat) : Int := if formF N ≠ 0 then formF N else traceF T L N.ni
/-- The state before cycle i. -/
def st (N : Net) (t : Nat → Nat → Bool) : Nat → Nat → Bool
  | 0, j => (N.flop j).init
  | i + 1, j => nextB N (bv N (t i) (st N t i) N.ng) j
/-- What is shown in cycle i. -/
def shown (N : Net) (t : Nat → Nat → Bool) (i k : Nat) : Bool := bv N (t i) (st N t i) N.ng (N.outs k).toNat
end Go.Ab
namespace Go.Ab
open Go
noncomputable def widthG (G : Gra) (n1 n2 : Nat) : Int := if graphF G ≠ 0 then graphF G else if n1 ≠ G.ni ∨ n2 ≠ G.nr then 20 else 0
theorem widthG_zero {G : Gra} {n1 n2 : Nat} (h : widthG G n1 n2 = 0) : G.Good ∧ n1 = G.ni ∧ n2 = G.nr := by
  unfold widthG at h
  split at h
  · rename_i h1; exact absurd h h1
  · rename_i h1
    split at h
    · cases h
    · exact ⟨good_of (Classical.not_not.1 h1), by omega, by omega⟩
def wBaseG (ni : Nat) (x y : Nat → Int) (k : Nat) : Int := if k = 0 then 0 else if k < 1 + ni then x (k - 1) else y (k - 1 - ni)
def bBaseG (ni : Nat) (x y : Nat → Bool) (k : Nat) : Bool := if k = 0 then false else if k < 1 + ni then x (k - 1) else y (k - 1 - ni)
/-- The word, the bit of a literal. -/
def ofW (v : Nat → Int) (l : Int) : Int := if l % 2 = 1 then bitop .xor .u64 ones (v (ndx l)) else v (ndx l)
def ofB (v : Nat → Bool) (l : Int) : Bool := Bool.xor (v (ndx l)) (decide (l % 2 = 1))
/-- The words of nodes behind the first i ands. -/
def gw (G : Gra) (x y : Nat → Int) : Nat → Nat → Int
  | 0, k => wBaseG G.ni x y k
  | i + 1, k => if k = G.base + i then bitop .and .u64 (ofW (gw G x y i) (G.A i)) (ofW (gw G x y i) (G.B i)) else gw G x y i k
def gb (G : Gra) (x y : Nat → Bool) : Nat → Nat → Bool
  | 0, k => bBaseG G.ni x y k
  | i + 1, k => if k = G.base + i then ofB (gb G x y i) (G.A i) && ofB (gb G x y i) (G.B i) else gb G x y i k
theorem u64_xor (a b : Int) : U64 (bitop .xor .u64 a b) := by
  show U64 (IntKind.u64.wrap ((BitVec.ofInt 64 a ^^^ BitVec.ofInt 64 b).toNat : Int)); rw [wrap_bv]; exact ⟨by omega, by have := (BitVec.ofInt 64 a ^^^ BitVec.ofInt 64 b).isLt; omega⟩
theorem u64_ofW {v : Nat → Int} (h : ∀ k, U64 (v k)) (l : Int) : U64 (ofW v l) := by
  unfold ofW
  split
  · exact u64_xor _ _
  · exact h _
theorem u64_gw {G : Gra} {x y : Nat → Int} (hx : ∀ k, U64 (x k)) (hy : ∀ k, U64 (y k)) : ∀ i k, U64 (gw G x y i k)
  | 0, k => by
    simp only [gw, wBaseG]
    split
    · exact ⟨by decide, by decide⟩
    · split
      · exact hx _
      · exact hy _
  | i + 1, k => by
    simp only [gw]
    split
    · exact u64_and _ _
    · exact u64_gw hx hy i k
theorem bit_ofW {v : Nat → Int} {w : Nat → Bool} {z : Nat} (hz : z < 64) (h : ∀ k, bit (v k) z = w k) (l : Int) : bit (ofW v l) z = ofB w l := by
  unfold ofW ofB
  by_cases e : l % 2 = 1
  · rw [if_pos e, bit_not _ z hz, h]; simp [e]
  · rw [if_neg e, h]; simp [e]
/-- **In each lane, the words are the bits.** -/
theorem laneG {G : Gra} {x y : Nat → Int} {z : Nat} (hz : z < 64) : ∀ i k, bit (gw G x y i k) z = gb G (fun j => bit (x j) z) (fun j => bit (y j) z) i k
  | 0, k => by
    simp only [gw, gb, wBaseG, bBaseG]
    split
    · exact bit_zero z
    · split <;> rfl
  | i + 1, k => by
    have ih := laneG (G := G) (x := x) (y := y) hz i
    simp only [gw, gb]
    split
    · rw [bit_and, bit_ofW hz ih, bit_ofW hz ih]
    · exact ih k
/-- A node keeps its value once it has it. -/
theorem gb_far (G : Gra) (x y : Nat → Bool) : ∀ (n i k : Nat), i ≤ n → k < G.base + i → gb G x y n k = gb G x y i k
  | 0, i, k, h, hk => by obtain rfl : i = 0 := by omega
                         rfl
  | n + 1, i, k, h, hk => by
    by_cases e : i = n + 1
    · rw [e]
    · simp only [gb]
      rw [if_neg (by omega)]
      exact gb_far G x y n i k (by omega) hk
/-- The value of a node of a graph. -/
def nodeB (G : Gra) (x y : Nat → Bool) (k : Nat) : Bool := gb G x y G.na k
def litB (G : Gra) (x y : Nat → Bool) (l : Int) : Bool := ofB (nodeB G x y) l
theorem nodeB_and {G : Gra} (gd : G.Good) {x y : Nat → Bool} {i : Nat} (hi : i < G.na) : nodeB G x y (G.base + i) = (litB G x y (G.A i) && litB G x y (G.B i)) := by
  unfold nodeB litB
  rw [gb_far G x y G.na (i + 1) _ (by omega) (by omega)]
  simp only [gb, if_true, ofB, nodeB]
  rw [gb_far G x y G.na i _ (by omega) (ndx_lt (gd.A i hi)), gb_far G x y G.na i _ (by omega) (ndx_lt (gd.B i hi))]
theorem litB_even {G : Gra} {x y : Nat → Bool} {k : Nat} : litB G x y (2 * (k : Int)) = nodeB G x y k := by
  have e : ndx (2 * (k : Int)) = k := by unfold ndx; omega
  unfold litB ofB
  rw [e, show (2 * (k : Int)) % 2 = 0 by omega]
  simp
theorem nodeB_base {G : Gra} {x y : Nat → Bool} {k : Nat} (hk : k < G.base) : nodeB G x y k = bBaseG G.ni x y k := gb_far G x y G.na 0 k (Nat.zero_le _) hk
end Go.Ab
