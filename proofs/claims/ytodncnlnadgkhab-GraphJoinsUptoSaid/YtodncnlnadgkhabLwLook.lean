/- Plain law: a look in a table. -/
import Derived.Test.YtodncnlnadgkhabLwBit
set_option linter.unusedSimpArgs false
set_option linter.unusedVariables false
namespace Go.Ab
open Go

def term (x : Nat → Int) (r : Nat) : Nat → Int
  | 0 => 18446744073709551615
  | i + 1 => if bitop .and .i64 ((r : Int).fdiv (2 ^ (min i 64))) 1 = 1 then bitop .and .u64 (term x r i) (x i) else bitop .andNot .u64 (term x r i) (x i)
def accL (t : Int) (n : Nat) (x : Nat → Int) : Nat → Int
  | 0 => 0
  | r + 1 => if bitop .and .u64 (t.fdiv (2 ^ (min r 64))) 1 = 0 then accL t n x r else bitop .or .u64 (accL t n x r) (term x r n)
def lookF (t : Int) (n : Nat) (x : Nat → Int) : Int := if n ≤ 6 then accL t n x (2 ^ n) else 0
def colB (x : Nat → Int) (j : Int) (i : Nat) : Prop := bitop .and .u64 ((x i).fdiv (2 ^ min j.toNat 64)) 1 = 1
instance (x : Nat → Int) (j : Int) (i : Nat) : Decidable (colB x j i) := by unfold colB; infer_instance

theorem u64_term (x : Nat → Int) (r i : Nat) : U64 (term x r i) := by
  cases i with
  | zero => exact (show U64 18446744073709551615 from ⟨by decide, by decide⟩)
  | succ i =>
    simp only [term]
    split
    · exact u64_and _ _
    · exact u64_andNot _ _
theorem u64_accL (t : Int) (n : Nat) (x : Nat → Int) (r : Nat) : U64 (accL t n x r) := by
  induction r with
  | zero => exact (show U64 0 from ⟨by decide, by decide⟩)
  | succ r ih =>
    simp only [accL]
    split
    · exact ih
    · exact u64_or _ _
theorem u64_lookF (t : Int) (n : Nat) (x : Nat → Int) : U64 (lookF t n x) := by
  unfold lookF; split
  · exact u64_accL _ _ _ _
  · exact ⟨by decide, by decide⟩

theorem bit_term (x : Nat → Int) (r k : Nat) (hk : k < 64) (hr : r < 9223372036854775808) : ∀ i, i ≤ 63 → (bit (term x r i) k = true ↔ ∀ j, j < i → r.testBit j = bit (x j) k)
  | 0, _ => by simp [term, bit_ones k hk]
  | i + 1, hi => by
    have ih := bit_term x r k hk hr i (by omega)
    simp only [term]
    rw [shift_and_one_i64 r hr i (by omega)]
    have key : (∀ j, j < i + 1 → r.testBit j = bit (x j) k) ↔ ((∀ j, j < i → r.testBit j = bit (x j) k) ∧ r.testBit i = bit (x i) k) :=
      ⟨fun h => ⟨fun j hj => h j (by omega), h i (by omega)⟩, fun h j hj => by
        rcases Nat.lt_or_ge j i with h1 | h1
        · exact h.1 j h1
        · obtain rfl : j = i := by omega
          exact h.2⟩
    rw [key, ← ih]
    cases hb : r.testBit i with
    | true => simp [bit_and]
    | false => simp [bit_andNot _ _ k hk]

theorem bit_accL {t : Int} (ht : U64 t) (n : Nat) (hn : n ≤ 63) (x : Nat → Int) (k : Nat) (hk : k < 64) : ∀ R, R ≤ 64 → (bit (accL t n x R) k = true ↔ ∃ r, r < R ∧ bit t r = true ∧ ∀ j, j < n → r.testBit j = bit (x j) k)
  | 0, _ => by simp [accL, bit_zero]
  | R + 1, hR => by
    have ih := bit_accL ht n hn x k hk R (by omega)
    simp only [accL]
    rw [shift_and_one ht R (by omega)]
    have key : (∃ r, r < R + 1 ∧ bit t r = true ∧ ∀ j, j < n → r.testBit j = bit (x j) k) ↔ ((∃ r, r < R ∧ bit t r = true ∧ ∀ j, j < n → r.testBit j = bit (x j) k) ∨ (bit t R = true ∧ ∀ j, j < n → R.testBit j = bit (x j) k)) := by
      constructor
      · rintro ⟨r, h1, h2⟩
        rcases Nat.lt_or_ge r R with h | h
        · exact .inl ⟨r, h, h2⟩
        · obtain rfl : r = R := by omega
          exact .inr h2
      · rintro (⟨r, h1, h2⟩ | h)
        · exact ⟨r, by omega, h2⟩
        · exact ⟨R, by omega, h⟩
    rw [key, ← ih, ← bit_term x R k hk (by omega) n hn]
    cases hb : bit t R with
    | true => simp [bit_or]
    | false => simp

def rowS (x : Nat → Int) (k : Nat) : Nat → Nat
  | 0 => 0
  | i + 1 => rowS x k i + if bit (x i) k = true then 2 ^ i else 0
theorem rowS_lt (x : Nat → Int) (k : Nat) : ∀ n, rowS x k n < 2 ^ n
  | 0 => by simp [rowS]
  | n + 1 => by
    have := rowS_lt x k n
    simp only [rowS, Nat.pow_succ]
    split <;> omega
theorem rowS_bit (x : Nat → Int) (k : Nat) : ∀ n j, (rowS x k n).testBit j = (decide (j < n) && bit (x j) k)
  | 0, j => by simp [rowS]
  | n + 1, j => by
    have ih := rowS_bit x k n j
    have hlt := rowS_lt x k n
    simp only [rowS]
    cases hb : bit (x n) k with
    | false =>
      simp only [Bool.false_eq_true, if_false, Nat.add_zero, ih]
      by_cases h : j = n
      · subst h; simp [hb]
      · have : (j < n + 1) ↔ j < n := by omega
        simp [this]
    | true =>
      simp only [if_true]
      rw [Nat.add_comm, ← Nat.mul_one (2 ^ n), Nat.testBit_two_pow_mul_add 1 hlt j]
      by_cases h : j < n
      · simp [h, ih, show j < n + 1 by omega]
      · by_cases h2 : j = n
        · subst h2; simp [hb]
        · have h3 : ¬ j < n + 1 := by omega
          have h4 : ∃ q, j - n = q + 1 := ⟨j - n - 1, by omega⟩
          obtain ⟨q, hq⟩ := h4
          simp [h, h3, hq, Nat.testBit_add_one]
theorem bit_lookF {t : Int} (ht : U64 t) (n : Nat) (hn : n ≤ 6) (x : Nat → Int) (k : Nat) (hk : k < 64) : bit (lookF t n x) k = bit t (rowS x k n) := by
  have h2 : 2 ^ n ≤ 64 := by
    have := Nat.pow_le_pow_right (show 0 < 2 by decide) hn
    simpa using this
  unfold lookF
  rw [if_pos hn, Bool.eq_iff_iff, bit_accL ht n (by omega) x k hk (2 ^ n) h2]
  constructor
  · rintro ⟨r, h1, h3, h4⟩
    have : r = rowS x k n := by
      apply Nat.eq_of_testBit_eq
      intro j
      rw [rowS_bit]
      by_cases hj : j < n
      · rw [h4 j hj]; simp [hj]
      · simp only [hj, decide_false, Bool.false_and]
        exact Nat.testBit_lt_two_pow (Nat.lt_of_lt_of_le h1 (Nat.pow_le_pow_right (by decide) (by omega)))
    rw [← this]; exact h3
  · intro h
    refine ⟨rowS x k n, rowS_lt x k n, h, fun j hj => ?_⟩
    rw [rowS_bit]; simp [hj]
theorem colB_iff {x : Nat → Int} {z i : Nat} (hz : z < 64) (hx : U64 (x i)) : colB x z i ↔ bit (x i) z = true := by
  unfold colB
  rw [Int.toNat_natCast, shift_and_one hx z hz]
  cases bit (x i) z <;> simp
/-- What the look law says at one place. -/
theorem look_place {t : Int} (ht : U64 t) (n : Nat) (hn : n ≤ 6) (x : Nat → Int) (k : Nat) (hk : k < 64) : bitop .and .u64 ((lookF t n x).fdiv (2 ^ min k 64)) 1 = bitop .and .u64 (t.fdiv (2 ^ min (rowS x k n) 64)) 1 := by
  have h1 := rowS_lt x k n
  have h2 : 2 ^ n ≤ 64 := by
    have := Nat.pow_le_pow_right (show 0 < 2 by decide) hn
    simpa using this
  rw [shift_and_one (u64_lookF t n x) k hk, shift_and_one ht _ (by omega), bit_lookF ht n hn x k hk]
theorem rowS_step {x : Nat → Int} {z q n : Nat} (hn : n ≤ 6) (hq : q < n) (h : bit (x q) z = true) : IntKind.i64.wrap ((rowS x z q : Nat) + IntKind.i64.wrap (1 * 2 ^ min q 64)) = (rowS x z (q + 1) : Nat) := by
  have h1 := rowS_lt x z q
  have h2 : 2 ^ q ≤ 64 := by
    have := Nat.pow_le_pow_right (show 0 < 2 by decide) (show q ≤ 6 by omega)
    simpa using this
  have e : (1 : Int) * 2 ^ min q 64 = ((2 ^ q : Nat) : Int) := by rw [show min q 64 = q by omega]; simp
  rw [e, wI (n := ((2 ^ q : Nat) : Int)) (by omega) (by omega)]
  simp only [rowS, h, if_true]
  rw [wI (by omega) (by omega)]; omega
end Go.Ab
