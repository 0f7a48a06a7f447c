/- Plain laws on the bits of words. -/
import Derived.Test.YtodncnlnadgkhaaFwP
set_option linter.unusedSimpArgs false
set_option linter.unusedVariables false
namespace Go.Ab
open Go

/-- Bit k of a word. -/
def bit (a : Int) (k : Nat) : Bool := (BitVec.ofInt 64 a).getLsbD k
/-- A word: 64 bits without a sign. -/
def U64 (a : Int) : Prop := 0 ≤ a ∧ a ≤ 18446744073709551615

theorem wrap_bv (z : BitVec 64) : IntKind.u64.wrap z.toNat = z.toNat := wU (by omega) (by have := z.isLt; omega)
theorem u64_and (a b : Int) : U64 (bitop .and .u64 a b) := by
  show U64 (IntKind.u64.wrap ((BitVec.ofInt 64 a &&& BitVec.ofInt 64 b).toNat : Int)); rw [wrap_bv]; exact ⟨by omega, by have := (BitVec.ofInt 64 a &&& BitVec.ofInt 64 b).isLt; omega⟩
theorem u64_or (a b : Int) : U64 (bitop .or .u64 a b) := by
  show U64 (IntKind.u64.wrap ((BitVec.ofInt 64 a ||| BitVec.ofInt 64 b).toNat : Int)); rw [wrap_bv]; exact ⟨by omega, by have := (BitVec.ofInt 64 a ||| BitVec.ofInt 64 b).isLt; omega⟩
theorem u64_andNot (a b : Int) : U64 (bitop .andNot .u64 a b) := by
  show U64 (IntKind.u64.wrap ((BitVec.ofInt 64 a &&& ~~~ BitVec.ofInt 64 b).toNat : Int)); rw [wrap_bv]; exact ⟨by omega, by have := (BitVec.ofInt 64 a &&& ~~~ BitVec.ofInt 64 b).isLt; omega⟩
theorem ofInt_toNat (z : BitVec 64) : BitVec.ofInt 64 (IntKind.u64.wrap z.toNat) = z := by
  rw [wrap_bv]; simp
theorem bit_and (a b : Int) (k : Nat) : bit (bitop .and .u64 a b) k = (bit a k && bit b k) := by
  show (BitVec.ofInt 64 (IntKind.u64.wrap (BitVec.ofInt 64 a &&& BitVec.ofInt 64 b).toNat)).getLsbD k = _
  rw [ofInt_toNat]; simp [bit]
theorem bit_or (a b : Int) (k : Nat) : bit (bitop .or .u64 a b) k = (bit a k || bit b k) := by
  show (BitVec.ofInt 64 (IntKind.u64.wrap (BitVec.ofInt 64 a ||| BitVec.ofInt 64 b).toNat)).getLsbD k = _
  rw [ofInt_toNat]; simp [bit]
theorem bit_andNot (a b : Int) (k : Nat) (hk : k < 64) : bit (bitop .andNot .u64 a b) k = (bit a k && !bit b k) := by
  show (BitVec.ofInt 64 (IntKind.u64.wrap (BitVec.ofInt 64 a &&& ~~~ BitVec.ofInt 64 b).toNat)).getLsbD k = _
  rw [ofInt_toNat]; simp [bit, hk]
theorem bit_zero (k : Nat) : bit 0 k = false := by simp [bit]
theorem bit_ones (k : Nat) (hk : k < 64) : bit 18446744073709551615 k = true := by
  have : BitVec.ofInt 64 18446744073709551615 = BitVec.allOnes 64 := by decide
  unfold bit; rw [this, BitVec.getLsbD_allOnes]; simp [hk]
theorem bit_testBit {a : Int} (ha : U64 a) (k : Nat) (hk : k < 64) : bit a k = a.toNat.testBit k := by
  obtain ⟨n, rfl⟩ : ∃ n : Nat, a = n := ⟨a.toNat, by have := ha.1; omega⟩
  unfold bit; rw [BitVec.ofInt_natCast, BitVec.getLsbD_ofNat]; simp [hk]
theorem shift_and_one {a : Int} (ha : U64 a) (k : Nat) (hk : k < 64) : bitop .and .u64 (a.fdiv (2 ^ min k 64)) 1 = if bit a k = true then 1 else 0 := by
  rw [bit_testBit ha k hk]
  obtain ⟨n, rfl⟩ : ∃ n : Nat, a = n := ⟨a.toNat, by have := ha.1; omega⟩
  have h1 : min k 64 = k := by omega
  have h2 : ((n : Int).fdiv (2 ^ k)) = ((n / 2 ^ k : Nat) : Int) := by
    rw [Int.fdiv_eq_ediv_of_nonneg _ (by exact Int.le_of_lt (Int.pow_pos (by decide)))]; simp
  have hn : n / 2 ^ k < 2 ^ 64 := Nat.lt_of_le_of_lt (Nat.div_le_self _ _) (by have := ha.2; omega)
  rw [h1, h2]
  show IntKind.u64.wrap (BitVec.ofInt 64 ((n / 2 ^ k : Nat) : Int) &&& BitVec.ofInt 64 1).toNat = _
  rw [wrap_bv]
  have h3 : (BitVec.ofInt 64 ((n / 2 ^ k : Nat) : Int) &&& BitVec.ofInt 64 1).toNat = (n / 2 ^ k) % 2 := by
    rw [BitVec.toNat_and, BitVec.ofInt_natCast]
    have : (BitVec.ofInt 64 1).toNat = 1 := by decide
    rw [this, BitVec.toNat_ofNat, Nat.mod_eq_of_lt hn, Nat.and_one_is_mod]
  rw [h3]
  simp only [Int.toNat_natCast, Nat.testBit_eq_decide_div_mod_eq]
  have h4 : n / 2 ^ k % 2 = 0 ∨ n / 2 ^ k % 2 = 1 := by omega
  rcases h4 with h | h <;> rw [h] <;> simp
theorem shift_and_one_i64 (r : Nat) (hr : r < 9223372036854775808) (i : Nat) (hi : i < 63) : bitop .and .i64 ((r : Int).fdiv (2 ^ min i 64)) 1 = if r.testBit i = true then 1 else 0 := by
  have h1 : min i 64 = i := by omega
  have h2 : ((r : Int).fdiv (2 ^ i)) = ((r / 2 ^ i : Nat) : Int) := by
    rw [Int.fdiv_eq_ediv_of_nonneg _ (by exact Int.le_of_lt (Int.pow_pos (by decide)))]; simp
  have hn : r / 2 ^ i < 2 ^ 64 := Nat.lt_of_le_of_lt (Nat.div_le_self _ _) (by omega)
  rw [h1, h2]
  show IntKind.i64.wrap (BitVec.ofInt 64 ((r / 2 ^ i : Nat) : Int) &&& BitVec.ofInt 64 1).toNat = _
  have h3 : (BitVec.ofInt 64 ((r / 2 ^ i : Nat) : Int) &&& BitVec.ofInt 64 1).toNat = (r / 2 ^ i) % 2 := by
    rw [BitVec.toNat_and, BitVec.ofInt_natCast]
    have : (BitVec.ofInt 64 1).toNat = 1 := by decide
    rw [this, BitVec.toNat_ofNat, Nat.mod_eq_of_lt hn, Nat.and_one_is_mod]
  rw [h3, Nat.testBit_eq_decide_div_mod_eq]
  have h4 : r / 2 ^ i % 2 = 0 ∨ r / 2 ^ i % 2 = 1 := by omega
  rcases h4 with h | h <;> rw [h] <;> simp <;> exact wI (by omega) (by omega)
theorem u64_ext {a b : Int} (ha : U64 a) (hb : U64 b) (h : ∀ k, k < 64 → bit a k = bit b k) : a = b := by
  obtain ⟨m, rfl⟩ : ∃ n : Nat, a = n := ⟨a.toNat, by have := ha.1; omega⟩
  obtain ⟨n, rfl⟩ : ∃ n : Nat, b = n := ⟨b.toNat, by have := hb.1; omega⟩
  have e : BitVec.ofNat 64 m = BitVec.ofNat 64 n := BitVec.eq_of_getLsbD_eq fun i hi => by
    have := h i hi
    unfold bit at this
    rw [BitVec.ofInt_natCast, BitVec.ofInt_natCast] at this
    exact this
  have e2 := congrArg BitVec.toNat e
  rw [BitVec.toNat_ofNat, BitVec.toNat_ofNat, Nat.mod_eq_of_lt (by have := ha.2; omega), Nat.mod_eq_of_lt (by have := hb.2; omega)] at e2
  rw [e2]
/-- Bits outside of a mask, said in two ways. -/
theorem or_mask {t m : Int} (hm : U64 m) : bitop .or .u64 t m = m ↔ bitop .andNot .u64 t m = 0 := by
  constructor
  · intro h
    refine u64_ext (u64_andNot _ _) ⟨by decide, by decide⟩ fun k hk => ?_
    rw [bit_andNot _ _ k hk, bit_zero]
    have := congrArg (fun z => bit z k) h
    simp only [bit_or] at this
    cases h1 : bit t k <;> cases h2 : bit m k <;> simp_all
  · intro h
    refine u64_ext (u64_or _ _) hm fun k hk => ?_
    rw [bit_or]
    have := congrArg (fun z => bit z k) h
    simp only [bit_andNot _ _ k hk, bit_zero] at this
    cases h1 : bit t k <;> cases h2 : bit m k <;> simp_all
end Go.Ab
