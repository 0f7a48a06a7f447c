/- Tables of six inputs, bit by bit. -/
import Derived.Test.YtiecnmojbdogfaaLwValues
set_option linter.unusedSimpArgs false
set_option linter.unusedVariables false
namespace Go.Ab
open Go
/-- A number with bit i fixed. -/
def setb (j i : Nat) (v : Bool) : Nat := rowB (fun q => if q = i then v else j.testBit q) 6
theorem setb_t : ∀ j, j < 64 → ∀ i, i < 6 → setb j i true = if j.testBit i then j else j + 2 ^ i := by decide +kernel
theorem setb_f : ∀ j, j < 64 → ∀ i, i < 6 → setb j i false = if j.testBit i then j - 2 ^ i else j := by decide +kernel
theorem setb_lt (j i : Nat) (v : Bool) : setb j i v < 64 := rowB_lt _ 6
theorem setb_x : ∀ j, j < 64 → ∀ i, i < 6 → setb j i false ^^^ 2 ^ i = setb j i true ∧ (j.testBit i = false → j ^^^ 2 ^ i = setb j i true) ∧ (j.testBit i = true → j ^^^ 2 ^ i = setb j i false) := by decide +kernel
theorem setb_in : ∀ n, n < 7 → ∀ i, i < n → ∀ j, j < 2 ^ n → setb j i true < 2 ^ n ∧ setb j i false < 2 ^ n := by decide +kernel
theorem plus_bit : ∀ j, j < 64 → ∀ i, i < 6 → j + 2 ^ i < 64 → (j + 2 ^ i).testBit i = !j.testBit i := by decide +kernel
theorem low_lt : ∀ j, j < 64 → ∀ i, i < 6 → j.testBit i = false → j + 2 ^ i < 64 := by decide +kernel
theorem minus_bit : ∀ j, j < 64 → ∀ i, i < 6 → 2 ^ i ≤ j → (j - 2 ^ i).testBit i = !j.testBit i := by decide +kernel
theorem high_le : ∀ j, j < 64 → ∀ i, i < 6 → j.testBit i = true → 2 ^ i ≤ j := by decide +kernel
theorem and_bit : ∀ k : Nat, k < 64 → ∀ i : Nat, i < 6 → bitop .and .i64 ((k : Int).fdiv (2 ^ min i 64)) 1 = if k.testBit i then 1 else 0 := by decide +kernel
theorem pow_u64 {k : Nat} (hk : k < 64) : U64 ((2 ^ k : Nat) : Int) := by
  have : 2 ^ k ≤ 2 ^ 63 := Nat.pow_le_pow_right (by decide) (by omega)
  have h : ((2 ^ k : Nat) : Int) ≤ ((2 ^ 63 : Nat) : Int) := Int.ofNat_le.2 this
  exact ⟨Int.natCast_nonneg _, Int.le_trans h (by decide)⟩
theorem bit_pow {k j : Nat} (hk : k < 64) (hj : j < 64) : bit ((2 ^ k : Nat) : Int) j = decide (j = k) := by
  rw [bit_testBit (pow_u64 hk) j hj, Int.toNat_natCast, Nat.testBit_two_pow]
  congr 1
  exact propext ⟨fun h => h.symm, fun h => h.symm⟩
theorem shl_pow {k : Nat} (hk : k < 64) : IntKind.u64.wrap (1 * 2 ^ min k 64) = ((2 ^ k : Nat) : Int) := by
  have h := pow_u64 hk
  rw [Nat.min_eq_left (by omega), Int.one_mul]
  rw [show (2 : Int) ^ k = ((2 ^ k : Nat) : Int) by rw [Int.natCast_pow]; rfl]
  exact wU h.1 h.2
/-- One bit more. -/
theorem fill_step {t : Int} {k : Nat} {c : Nat → Bool} (hk : k < 64) (h : ∀ j, j < 64 → bit t j = (decide (j < k) && c j)) (hc : c k = true) : ∀ j, j < 64 → bit (bitop .or .u64 t ((2 ^ k : Nat) : Int)) j = (decide (j < k + 1) && c j) := fun j hj => by
  rw [bit_or, h j hj, bit_pow hk hj]
  by_cases e : j = k
  · subst e; simp [hc]
  · by_cases l : j < k
    · simp [l, e, show j < k + 1 by omega]
    · simp [l, e, show ¬ j < k + 1 by omega]
theorem fill_skip {t : Int} {k : Nat} {c : Nat → Bool} (h : ∀ j, j < 64 → bit t j = (decide (j < k) && c j)) (hc : c k = false) : ∀ j, j < 64 → bit t j = (decide (j < k + 1) && c j) := fun j hj => by
  rw [h j hj]
  by_cases e : j = k
  · subst e; simp [hc]
  · by_cases l : j < k
    · simp [l, show j < k + 1 by omega]
    · simp [l, show ¬ j < k + 1 by omega]
theorem bit_out (a : Int) {k : Nat} (hk : 64 ≤ k) : bit a k = false := BitVec.getLsbD_of_ge _ _ hk
theorem bit_shr' {a : Int} (ha : U64 a) (h : Nat) {k : Nat} (hk : k < 64) : bit (a.fdiv (2 ^ min h 64)) k = bit a (h + k) := by
  by_cases hl : h + k < 64
  · exact bit_shr ha hl
  · rw [bit_out a (by omega), bit_testBit (u64_shr ha h) k hk]
    obtain ⟨h0, h1⟩ := ha
    obtain ⟨x, rfl⟩ : ∃ x : Nat, a = (x : Int) := ⟨a.toNat, by omega⟩
    have e : ((x : Int).fdiv (2 ^ min h 64)).toNat = x / 2 ^ min h 64 := by rw [fdiv_nat, Int.toNat_natCast]
    rw [e, Nat.testBit_div_two_pow]
    refine Nat.testBit_lt_two_pow (Nat.lt_of_lt_of_le (show x < 2 ^ 64 by omega) (Nat.pow_le_pow_right (by decide) (by omega)))
theorem u64_wrap (a : Int) : U64 (IntKind.u64.wrap a) := by
  rw [show IntKind.u64.wrap a = a % 18446744073709551616 from IntKind.wrap_u64 a]
  exact ⟨Int.emod_nonneg _ (by decide), by have := Int.emod_lt_of_pos a (show (0 : Int) < 18446744073709551616 by decide); omega⟩
theorem bit_shl {a : Int} (ha : U64 a) {h k : Nat} (hh : h < 64) (hk : k < 64) : bit (IntKind.u64.wrap (a * 2 ^ min h 64)) k = (decide (h ≤ k) && bit a (k - h)) := by
  obtain ⟨h0, h1⟩ := id ha
  rw [bit_testBit (u64_wrap _) k hk, bit_testBit ha (k - h) (by omega)]
  obtain ⟨x, rfl⟩ : ∃ x : Nat, a = (x : Int) := ⟨a.toNat, by omega⟩
  have e : (IntKind.u64.wrap ((x : Int) * 2 ^ min h 64)).toNat = (x * 2 ^ h) % 2 ^ 64 := by
    rw [Nat.min_eq_left (by omega), IntKind.wrap_u64]
    rw [show (2 : Int) ^ h = ((2 ^ h : Nat) : Int) by rw [Int.natCast_pow]; rfl]
    rw [← Int.natCast_mul]
    rw [show (18446744073709551616 : Int) = ((2 ^ 64 : Nat) : Int) from rfl, ← Int.natCast_emod, Int.toNat_natCast]
  rw [e, Nat.testBit_mod_two_pow, Int.toNat_natCast]
  rw [show x * 2 ^ h = x <<< h from (Nat.shiftLeft_eq x h).symm, Nat.testBit_shiftLeft]
  simp [hk]
end Go.Ab
