/- Truth tables: on which inputs a table depends. -/
import Derived.Test.YtodncnlnadgkhacLwBit
set_option linter.unusedSimpArgs false
set_option linter.unusedVariables false
namespace Go.Ab
open Go

theorem fdiv_nat (n k : Nat) : ((n : Int).fdiv (2 ^ k)) = ((n / 2 ^ k : Nat) : Int) := by
  rw [Int.fdiv_eq_ediv_of_nonneg _ (by exact Int.le_of_lt (Int.pow_pos (by decide)))]; simp
theorem u64_shr {a : Int} (ha : U64 a) (h : Nat) : U64 (a.fdiv (2 ^ min h 64)) := by
  obtain ⟨n, rfl⟩ : ∃ n : Nat, a = n := ⟨a.toNat, by have := ha.1; omega⟩
  rw [fdiv_nat]
  have h1 := Nat.div_le_self n (2 ^ min h 64)
  generalize n / 2 ^ min h 64 = q at *
  exact ⟨by omega, by have := ha.2; omega⟩
theorem bit_shr {a : Int} (ha : U64 a) {h k : Nat} (hk : h + k < 64) : bit (a.fdiv (2 ^ min h 64)) k = bit a (h + k) := by
  rw [bit_testBit (u64_shr ha h) k (by omega), bit_testBit ha (h + k) hk]
  obtain ⟨n, rfl⟩ : ∃ n : Nat, a = n := ⟨a.toNat, by have := ha.1; omega⟩
  rw [fdiv_nat, Int.toNat_natCast, Int.toNat_natCast, show min h 64 = h by omega, Nat.testBit_div_two_pow, Nat.add_comm]

theorem or_i64t {a b : Nat} (ha : a < 9223372036854775808) (hb : b < 9223372036854775808) : bitop .or .i64 (a : Int) (b : Int) = ((a ||| b : Nat) : Int) := by
  show IntKind.i64.wrap (BitVec.ofInt 64 (a : Int) ||| BitVec.ofInt 64 (b : Int)).toNat = _
  have hx : a ||| b < 2 ^ 63 := Nat.or_lt_two_pow (by omega) (by omega)
  have h3 : (BitVec.ofInt 64 (a : Int) ||| BitVec.ofInt 64 (b : Int)).toNat = a ||| b := by
    rw [BitVec.toNat_or, BitVec.ofInt_natCast, BitVec.ofInt_natCast, BitVec.toNat_ofNat, BitVec.toNat_ofNat, Nat.mod_eq_of_lt (by omega), Nat.mod_eq_of_lt (by omega)]
  rw [h3]
  exact wI (by omega) (by omega)
theorem shl_one {n : Nat} (hn : n < 7) : IntKind.i64.wrap (1 * 2 ^ min n 64) = ((2 ^ n : Nat) : Int) := by
  rcases (by omega : n = 0 ∨ n = 1 ∨ n = 2 ∨ n = 3 ∨ n = 4 ∨ n = 5 ∨ n = 6) with rfl | rfl | rfl | rfl | rfl | rfl | rfl <;> decide
/-- Input i of n counts in the table t. -/
def depP (t : Int) (n i : Nat) : Prop := ∃ k, k < 2 ^ n ∧ k / 2 ^ i % 2 = 0 ∧ bit t k ≠ bit t (k + 2 ^ i)
theorem k_in : ∀ n, n < 7 → ∀ i, i < n → ∀ k, k < 2 ^ n → k / 2 ^ i % 2 = 0 → k + 2 ^ i < 2 ^ n := by decide +kernel
theorem k_or : ∀ i, i < 6 → ∀ k, k < 64 → k / 2 ^ i % 2 = 0 → k ||| 2 ^ i = k + 2 ^ i := by decide +kernel
theorem k_xor0 : ∀ i, i < 6 → ∀ k, k < 64 → k / 2 ^ i % 2 = 0 → k ^^^ 2 ^ i = k + 2 ^ i := by decide +kernel
theorem k_xora : ∀ n, n < 7 → ∀ i, i < n → ∀ k, k < 2 ^ n → k / 2 ^ i % 2 = 1 → (k ^^^ 2 ^ i) < 2 ^ n := by decide +kernel
theorem k_xorb : ∀ n, n < 7 → ∀ i, i < n → ∀ k, k < 2 ^ n → k / 2 ^ i % 2 = 1 → (k ^^^ 2 ^ i) / 2 ^ i % 2 = 0 := by decide +kernel
theorem k_xorc : ∀ n, n < 7 → ∀ i, i < n → ∀ k, k < 2 ^ n → k / 2 ^ i % 2 = 1 → (k ^^^ 2 ^ i) + 2 ^ i = k := by decide +kernel
theorem k_xor1 (n : Nat) (hn : n < 7) (i : Nat) (hi : i < n) (k : Nat) (hk : k < 2 ^ n) (h : k / 2 ^ i % 2 = 1) : (k ^^^ 2 ^ i) < 2 ^ n ∧ (k ^^^ 2 ^ i) / 2 ^ i % 2 = 0 ∧ (k ^^^ 2 ^ i) + 2 ^ i = k := ⟨k_xora n hn i hi k hk h, k_xorb n hn i hi k hk h, k_xorc n hn i hi k hk h⟩
theorem k_high : ∀ n, n < 6 → ∀ i, i < n → ∀ k, k < 2 ^ n → (2 ^ n + k) / 2 ^ i % 2 = k / 2 ^ i % 2 := by decide +kernel
theorem p_le : ∀ n, n < 7 → 2 ^ n ≤ 64 := by decide
/-- The same, as it is said elsewhere. -/
theorem depP_iff {t : Int} {n i : Nat} (hn : n < 7) (hi : i < n) : depP t n i ↔ ∃ k, k < 2 ^ n ∧ bit t k ≠ bit t (k ^^^ 2 ^ i) := by
  have h64 := p_le n hn
  constructor
  · rintro ⟨k, h1, h2, h3⟩
    exact ⟨k, h1, by rw [k_xor0 i (by omega) k (by omega) h2]; exact h3⟩
  · rintro ⟨k, h1, h3⟩
    rcases (by omega : k / 2 ^ i % 2 = 0 ∨ k / 2 ^ i % 2 = 1) with h | h
    · exact ⟨k, h1, h, by rw [← k_xor0 i (by omega) k (by omega) h]; exact h3⟩
    · obtain ⟨q1, q2, q3⟩ := k_xor1 n hn i hi k h1 h
      exact ⟨k ^^^ 2 ^ i, q1, q2, by rw [q3]; exact Ne.symm h3⟩
theorem dep_low {t b : Int} {n i : Nat} (hn : n < 6) (hb : ∀ k, k < 2 ^ n → bit b k = bit t k) (hi : i < n) (h : depP b n i) : depP t (n + 1) i := by
  obtain ⟨k, h1, h2, h3⟩ := h
  have h4 := k_in n (by omega) i hi k h1 h2
  exact ⟨k, by rw [Nat.pow_succ]; omega, h2, by rw [← hb k h1, ← hb _ h4]; exact h3⟩
theorem dep_high {t a : Int} {n i : Nat} (hn : n < 6) (ha : ∀ k, k < 2 ^ n → bit a k = bit t (2 ^ n + k)) (hi : i < n) (h : depP a n i) : depP t (n + 1) i := by
  obtain ⟨k, h1, h2, h3⟩ := h
  have h4 := k_in n (by omega) i hi k h1 h2
  exact ⟨2 ^ n + k, by rw [Nat.pow_succ]; omega, by rw [k_high n hn i hi k h1]; exact h2, by rw [Nat.add_assoc, ← ha k h1, ← ha _ h4]; exact h3⟩
theorem dep_top {t a b : Int} {n : Nat} (hn : n < 6) (ha : ∀ k, k < 2 ^ n → bit a k = bit t (2 ^ n + k)) (hb : ∀ k, k < 2 ^ n → bit b k = bit t k) (h : ∃ k, k < 2 ^ n ∧ bit a k ≠ bit b k) : depP t (n + 1) n := by
  obtain ⟨k, h1, h2⟩ := h
  refine ⟨k, by rw [Nat.pow_succ]; omega, by rw [Nat.div_eq_of_lt h1], ?_⟩
  rw [Nat.add_comm k, ← ha k h1, ← hb k h1]
  exact Ne.symm h2
/-- The low 2^n bits of x. -/
def lowT (n : Nat) (x : Int) : Int := bitop .and .u64 x (2 ^ 2 ^ n - 1)
theorem mask_bit : ∀ n, n < 6 → ∀ k, k < 64 → bit (2 ^ 2 ^ n - 1) k = decide (k < 2 ^ n) := by decide +kernel
theorem low_bit {n k : Nat} (hn : n < 6) (x : Int) (hk : k < 2 ^ n) : bit (lowT n x) k = bit x k := by
  have := p_le n (by omega)
  unfold lowT
  rw [bit_and, mask_bit n hn k (by omega), decide_eq_true hk, Bool.and_true]
theorem low_ne {n : Nat} (hn : n < 6) {x y : Int} (h : lowT n x ≠ lowT n y) : ∃ k, k < 2 ^ n ∧ bit (lowT n x) k ≠ bit (lowT n y) k := by
  refine Classical.byContradiction fun hc => h (u64_ext (u64_and _ _) (u64_and _ _) fun k hk => ?_)
  by_cases e : k < 2 ^ n
  · exact Classical.byContradiction fun hne => hc ⟨k, e, hne⟩
  · unfold lowT
    rw [bit_and, bit_and, mask_bit n hn k hk, decide_eq_false e, Bool.and_false, Bool.and_false]
end Go.Ab
