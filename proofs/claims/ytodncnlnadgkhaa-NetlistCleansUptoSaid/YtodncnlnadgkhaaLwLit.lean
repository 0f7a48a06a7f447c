/- Bits of literals, plainly. -/
import Derived.Test.YtodncnlnadgkhaaLwBit
set_option linter.unusedSimpArgs false
set_option linter.unusedVariables false
namespace Go.Ab
open Go
def x1 (a : Int) : Int := bitop .xor .i64 a 1
/-- The opposite literal. -/
def notL (a : Int) : Int := if a < 0 then a else x1 a
theorem and_one {l : Int} (h0 : 0 ≤ l) (h1 : l ≤ 9223372036854775807) : bitop .and .i64 l 1 = l % 2 := by
  obtain ⟨n, rfl⟩ : ∃ n : Nat, l = n := ⟨l.toNat, by omega⟩
  have h := shift_and_one_i64 n (by omega) 0 (by omega)
  simp only [Nat.zero_min, Int.pow_zero, Int.fdiv_one] at h
  rw [h, Nat.testBit_zero]
  have : n % 2 = 0 ∨ n % 2 = 1 := by omega
  rcases this with e | e <;> simp [e] <;> omega
theorem nat_xor_one (n : Nat) : n ^^^ 1 = if n % 2 = 0 then n + 1 else n - 1 := by
  have h1 : (n ^^^ 1) / 2 = n / 2 := by rw [Nat.xor_div_two]; simp
  have h2 : (n ^^^ 1) % 2 = (n + 1) % 2 := by
    have h := @Nat.xor_mod_two_eq_one n 1
    rw [show (1 : Nat) % 2 = 1 from rfl] at h
    by_cases e : n % 2 = 1
    · have : ¬ (n ^^^ 1) % 2 = 1 := by rw [h]; simp [e]
      omega
    · have : (n ^^^ 1) % 2 = 1 := by rw [h]; simp [e]
      omega
  split <;> omega
theorem xor_i64 {a b : Nat} (ha : a < 9223372036854775808) (hb : b < 9223372036854775808) : bitop .xor .i64 (a : Int) (b : Int) = ((a ^^^ b : Nat) : Int) := by
  show IntKind.i64.wrap (BitVec.ofInt 64 (a : Int) ^^^ BitVec.ofInt 64 (b : Int)).toNat = _
  have hx : a ^^^ b < 2 ^ 63 := Nat.xor_lt_two_pow (by omega) (by omega)
  have h3 : (BitVec.ofInt 64 (a : Int) ^^^ BitVec.ofInt 64 (b : Int)).toNat = a ^^^ b := by
    rw [BitVec.toNat_xor, BitVec.ofInt_natCast, BitVec.ofInt_natCast, BitVec.toNat_ofNat, BitVec.toNat_ofNat, Nat.mod_eq_of_lt (by omega), Nat.mod_eq_of_lt (by omega)]
  rw [h3]
  exact wI (by omega) (by omega)
theorem x1_val {l : Int} (h0 : 0 ≤ l) (h1 : l ≤ 9223372036854775807) : x1 l = if l % 2 = 0 then l + 1 else l - 1 := by
  obtain ⟨n, rfl⟩ : ∃ n : Nat, l = n := ⟨l.toNat, by omega⟩
  unfold x1
  rw [show (1 : Int) = ((1 : Nat) : Int) from rfl, xor_i64 (by omega) (by decide), nat_xor_one]
  by_cases e : n % 2 = 0
  · rw [if_pos e, if_pos (by omega)]; omega
  · rw [if_neg e, if_neg (by omega)]; omega
theorem xor_zero {l : Int} (h0 : 0 ≤ l) (h1 : l ≤ 9223372036854775807) : bitop .xor .i64 l 0 = l := by
  obtain ⟨n, rfl⟩ : ∃ n : Nat, l = n := ⟨l.toNat, by omega⟩
  rw [show (0 : Int) = ((0 : Nat) : Int) from rfl, xor_i64 (by omega) (by decide), Nat.xor_zero]
theorem shr_one {l : Int} (h0 : 0 ≤ l) : l.fdiv (2 ^ min (Int.toNat 1) 64) = l / 2 := by
  rw [show min (Int.toNat 1) 64 = 1 from rfl, Int.fdiv_eq_ediv_of_nonneg _ (by decide)]; rfl
theorem tdiv_two {l : Int} (h0 : 0 ≤ l) : l.tdiv 2 = l / 2 := Int.tdiv_eq_ediv_of_nonneg h0
theorem tmod_two {l : Int} (h0 : 0 ≤ l) : l.tmod 2 = l % 2 := Int.tmod_eq_emod_of_nonneg h0
end Go.Ab
