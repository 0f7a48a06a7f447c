/- Truth tables: on which inputs a table depends. -/
import Derived.Test.YtiecnmojbdogfaaFwP
set_option linter.unusedSimpArgs false
set_option linter.unusedVariables false
namespace Go.Ab
open Go
/-- Bit k of a word. -/
def bit (a : Int) (k : Nat) : Bool := (BitVec.ofInt 64 a).getLsbD k
/-- A word: 64 bits without a sign. -/
def U64 (a : Int) : Prop := 0 ≤ a ∧ a ≤ 18446744073709551615

theorem wrap_bv (z : BitVec 64) : IntKind.u64.wrap z.toNat = z.toNat := wU (by omega) (by have := z.isLt; omega)
theorem u64_and (a b : Int) : U64 (bitop .and .u64 a b) := by
  show U64 (IntKind.u64.wrap ((BitVec.ofInt 64 a &&& BitVec.ofInt 64 b).toNat : Int)); rw [wrap_bv]; exact ⟨by omega, by have := (BitVec.ofInt 64 a &&& BitVec.ofInt 64 b).isLt; omega⟩
theorem u64_or (a b : Int) : U64 (bitop .or .u64 a b) := by
  show U64 (IntKind.u64.wrap ((BitVec.ofInt 64 a ||| BitVec.ofInt 64 b).toNat : Int)); rw [wrap_bv]; exact ⟨by omega, by have := (BitVec.ofInt 64 a ||| BitVec.ofInt 64 b).isLt; omega⟩
theorem u64_andNot (a b : Int) : U64 (bitop .andNot .u64 a b) := by
  show U64 (IntKind.u64.wrap ((BitVec.ofInt 64 a &&& ~~~ BitVec.ofInt 64 b).toNat : Int)); rw [wrap_bv]; exact ⟨by omega, by have := (BitVec.ofInt 64 a &&& ~~~ BitVec.ofInt 64 b).isLt; omega⟩
theorem ofInt_toNat (z : BitVec 64) : BitVec.ofInt 64 (IntKind.u64.wrap z.toNat) = z := by
  rw [wrap_bv]; simp
theorem bit_and (a b : Int) (k : Nat) : bit (bitop .and .u64 a b) k = (bit a k && bit b k) := by
  show (BitVec.ofInt 64 (IntKind.u64.wrap (BitVec.ofInt 64 a &&& BitVec.ofInt 64 b).toNat)).getLsbD k = _
  rw [ofInt_toNat]; simp [bit]
theorem bit_or (a b : Int) (k : Nat) : bit (bitop .or .u64 a b) k = (bit a k || bit b k) := by
  show (BitVec.ofInt 64 (IntKind.u64.wrap (BitVec.ofInt 64 a ||| BitVec.ofInt 64 b).toNat)).getLsbD k = _
  rw [ofInt_toNat]; simp [bit]
theorem bit_andNot (a b : Int) (k : Nat) (hk : k < 64) : bit (bitop .andNot .u64 a b) k = (bit a k && !bit b k) := by
  show (BitVec.ofInt 64 (IntKind.u64.wrap (BitVec.ofInt 64 a &&& ~~~ BitVec.ofInt 64 b).toNat)).getLsbD k = _
  rw [ofInt_toNat]; simp [bit, hk]
theorem bit_zero (k : Nat) : bit 0 k = false := by simp [bit]
theorem bit_ones (k : Nat) (hk : k < 64) : bit 18446744073709551615 k = true := by
  have : BitVec.ofInt 64 18446744073709551615 = BitVec.allOnes 64 := by decide
  unfold bit; rw [this, BitVec.getLsbD_allOnes]; simp [hk]
theorem bit_testBit {a : Int} (ha : U64 a) (k : Nat) (hk : k < 64) : bit a k = a.toNat.testBit k := by
  obtain ⟨n, rfl⟩ : ∃ n : Nat, a = n := ⟨a.toNat, by have := ha.1; omega⟩
  unfold bit; rw [BitVec.ofInt_natCast, BitVec.getLsbD_ofNat]; simp [hk]
theorem shift_and_one {a : Int} (ha : U64 a) (k : Nat) (hk : k < 64) : bitop .and .u64 (a.fdiv (2 ^ min k 64)) 1 = if bit a k = true then 1 else 0 := by
  rw [bit_testBit ha k hk]
  obtain ⟨n, rfl⟩ : ∃ n : Nat, a = n := ⟨a.toNat, by have := ha.1; omega⟩
  have h1 : min k 64 = k := by omega
  have h2 : ((n : Int).fdiv (2 ^ k)) = ((n / 2 ^ k : Nat) : Int) := by
    rw [Int.fdiv_eq_ediv_of_nonneg _ (by exact Int.le_of_lt (Int.pow_pos (by decide)))]; simp
  have hn : n / 2 ^ k < 2 ^ 64 := Nat.lt_of_le_of_lt (Nat.div_le_self _ _) (by have := ha.2; omega)
  rw [h1, h2]
  show IntKind.u64.wrap (BitVec.ofInt 64 ((n / 2 ^ k : Nat) : Int) &&& BitVec.ofInt 64 1).toNat = _
  rw [wrap_bv]
  have h3 : (BitVec.ofInt 64 ((n / 2 ^ k : Nat) : Int) &&& BitVec.ofInt 64 1).toNat = (n / 2 ^ k) % 2 := by
    rw [BitVec.toNat_and, BitVec.ofInt_natCast]
    have : (BitVec.ofInt 64 1).toNat = 1 := by decide
    rw [this, BitVec.toNat_ofNat, Nat.mod_eq_of_lt hn, Nat.and_one_is_mod]
  rw [h3]
  simp only [Int.toNat_natCast, Nat.testBit_eq_decide_div_mod_eq]
  have h4 : n / 2 ^ k % 2 = 0 ∨ n / 2 ^ k % 2 = 1 := by omega
  rcases h4 with h | h <;> rw [h] <;> simp
theorem shift_and_one_i64 (r : Nat) (hr : r < 9223372036854775808) (i : Nat) (hi : i < 63) : bitop .and .i64 ((r : Int).fdiv (2 ^ min i 64)) 1 = if r.testBit i = true then 1 else 0 := by
  have h1 : min i 64 = i := by omega
  have h2 : ((r : Int).fdiv (2 ^ i)) = ((r / 2 ^ i : Nat) : Int) := by
    rw [Int.fdiv_eq_ediv_of_nonneg _ (by exact Int.le_of_lt (Int.pow_pos (by decide)))]; simp
  have hn : r / 2 ^ i < 2 ^ 64 := Nat.lt_of_le_of_lt (Nat.div_le_self _ _) (by omega)
  rw [h1, h2]
  show IntKind.i64.wrap (BitVec.ofInt 64 ((r / 2 ^ i : Nat) : Int) &&& BitVec.ofInt 64 1).toNat = _
  have h3 : (BitVec.ofInt 64 ((r / 2 ^ i : Nat) : Int) &&& BitVec.ofInt 64 1).toNat = (r / 2 ^ i) % 2 := by
    rw [BitVec.toNat_and, BitVec.ofInt_natCast]
    have : (BitVec.ofInt 64 1).toNat = 1 := by decide
    rw [this, BitVec.toNat_ofNat, Nat.mod_eq_of_lt hn, Nat.and_one_is_mod]
  rw [h3, Nat.testBit_eq_decide_div_mod_eq]
  have h4 : r / 2 ^ i % 2 = 0 ∨ r / 2 ^ i % 2 = 1 := by omega
  rcases h4 with h | h <;> rw [h] <;> simp <;> exact wI (by omega) (by omega)
theorem u64_ext {a b : Int} (ha : U64 a) (hb : U64 b) (h : ∀ k, k < 64 → bit a k = bit b k) : a = b := by
  obtain ⟨m, rfl⟩ : ∃ n : Nat, a = n := ⟨a.toNat, by have := ha.1; omega⟩
  obtain ⟨n, rfl⟩ : ∃ n : Nat, b = n := ⟨b.toNat, by have := hb.1; omega⟩
  have e : BitVec.ofNat 64 m = BitVec.ofNat 64 n := BitVec.eq_of_getLsbD_eq fun i hi => by
    have := h i hi
    unfold bit at this
    rw [BitVec.ofInt_natCast, BitVec.ofInt_natCast] at this
    exact this
  have e2 := congrArg BitVec.toNat e
  rw [BitVec.toNat_ofNat, BitVec.toNat_ofNat, Nat.mod_eq_of_lt (by have := ha.2; omega), Nat.mod_eq_of_lt (by have := hb.2; omega)] at e2
  rw [e2]
/-- Bits outside of a mask, said in two ways. -/
theorem or_mask {t m : Int} (hm : U64 m) : bitop .or .u64 t m = m ↔ bitop .andNot .u64 t m = 0 := by
  constructor
  · intro h
    refine u64_ext (u64_andNot _ _) ⟨by decide, by decide⟩ fun k hk => ?_
    rw [bit_andNot _ _ k hk, bit_zero]
    have := congrArg (fun z => bit z k) h
    simp only [bit_or] at this
    cases h1 : bit t k <;> cases h2 : bit m k <;> simp_all
  · intro h
    refine u64_ext (u64_or _ _) hm fun k hk => ?_
    rw [bit_or]
    have := congrArg (fun z => bit z k) h
    simp only [bit_andNot _ _ k hk, bit_zero] at this
    cases h1 : bit t k <;> cases h2 : bit m k <;> simp_all
end Go.Ab
namespace Go.Ab
open Go
/-- The first fault among f 0 .. f (k-1), or 0. -/
def scan (f : Nat → Int) : Nat → Int
  | 0 => 0
  | k + 1 => if scan f k = 0 then f k else scan f k
theorem scan_step {f : Nat → Int} {i : Nat} (h : scan f i = 0) (hf : f i = 0) : scan f (i + 1) = 0 := by simp [scan, h, hf]
theorem scan_stop {f : Nat → Int} {i : Nat} {c : Int} (h : scan f i = 0) (hf : f i = c) (hc : c ≠ 0) : ∀ n, i < n → scan f n = c
  | n + 1, hn => by
    simp only [scan]
    by_cases e : i = n
    · subst e; rw [if_pos h]; exact hf
    · rw [scan_stop h hf hc n (by omega), if_neg hc]
theorem scan_congr {f g : Nat → Int} : ∀ n, (∀ i, i < n → f i = g i) → scan f n = scan g n
  | 0, _ => rfl
  | n + 1, h => by simp only [scan]; rw [scan_congr n fun i hi => h i (by omega), h n (by omega)]
theorem scan_zero {f : Nat → Int} : ∀ {n : Nat}, scan f n = 0 → ∀ i, i < n → f i = 0
  | n + 1, h, i, hi => by
    simp only [scan] at h
    by_cases e : scan f n = 0
    · rw [if_pos e] at h
      by_cases e2 : i = n
      · subst e2; exact h
      · exact scan_zero e i (by omega)
    · rw [if_neg e] at h; exact absurd h e

/-! ### names -/
def byteAt (s : ByteArray) (i : Nat) : Int := ((s.data.toList.getD i 0).toNat : Int)
def byteOk (b : Int) : Prop := 33 ≤ b ∧ b ≤ 126
instance (b : Int) : Decidable (byteOk b) := by unfold byteOk; infer_instance
def nameOk (s : ByteArray) : Prop := 1 ≤ s.size ∧ s.size ≤ 128 ∧ ∀ i, i < s.size → byteOk (byteAt s i)
instance (s : ByteArray) : Decidable (nameOk s) := by unfold nameOk; infer_instance
def seenB (s : Nat → ByteArray) (i : Nat) (q : ByteArray) : Prop := ∃ j, j < i ∧ s j = q
open Classical in
noncomputable def nameAt (s : Nat → ByteArray) (i : Nat) : Int := if nameOk (s i) then (if seenB s i (s i) then 6 else 0) else 9
noncomputable def namesF (s : Nat → ByteArray) (n : Nat) : Int := scan (nameAt s) n
theorem nameAt_bad {s : Nat → ByteArray} {i : Nat} (h : ¬ nameOk (s i)) : nameAt s i = 9 := by unfold nameAt; rw [if_neg h]
theorem nameAt_twice {s : Nat → ByteArray} {i : Nat} (h : nameOk (s i)) (h2 : seenB s i (s i)) : nameAt s i = 6 := by unfold nameAt; rw [if_pos h, if_pos h2]
theorem nameAt_ok {s : Nat → ByteArray} {i : Nat} (h : nameOk (s i)) (h2 : ¬ seenB s i (s i)) : nameAt s i = 0 := by unfold nameAt; rw [if_pos h, if_neg h2]
theorem seen_succ {s : Nat → ByteArray} {i : Nat} {q : ByteArray} : seenB s (i + 1) q ↔ seenB s i q ∨ s i = q := by
  constructor
  · rintro ⟨j, hj, h⟩
    rcases Nat.lt_or_ge j i with h1 | h1
    · exact .inl ⟨j, h1, h⟩
    · obtain rfl : j = i := by omega
      exact .inr h
  · rintro (⟨j, hj, h⟩ | h)
    · exact ⟨j, by omega, h⟩
    · exact ⟨i, by omega, h⟩
end Go.Ab
namespace Go.Ab
open Go
def x1 (a : Int) : Int := bitop .xor .i64 a 1
/-- The opposite literal. -/
def notL (a : Int) : Int := if a < 0 then a else x1 a
theorem and_one {l : Int} (h0 : 0 ≤ l) (h1 : l ≤ 9223372036854775807) : bitop .and .i64 l 1 = l % 2 := by
  obtain ⟨n, rfl⟩ : ∃ n : Nat, l = n := ⟨l.toNat, by omega⟩
  have h := shift_and_one_i64 n (by omega) 0 (by omega)
  simp only [Nat.zero_min, Int.pow_zero, Int.fdiv_one] at h
  rw [h, Nat.testBit_zero]
  have : n % 2 = 0 ∨ n % 2 = 1 := by omega
  rcases this with e | e <;> simp [e] <;> omega
theorem nat_xor_one (n : Nat) : n ^^^ 1 = if n % 2 = 0 then n + 1 else n - 1 := by
  have h1 : (n ^^^ 1) / 2 = n / 2 := by rw [Nat.xor_div_two]; simp
  have h2 : (n ^^^ 1) % 2 = (n + 1) % 2 := by
    have h := @Nat.xor_mod_two_eq_one n 1
    rw [show (1 : Nat) % 2 = 1 from rfl] at h
    by_cases e : n % 2 = 1
    · have : ¬ (n ^^^ 1) % 2 = 1 := by rw [h]; simp [e]
      omega
    · have : (n ^^^ 1) % 2 = 1 := by rw [h]; simp [e]
      omega
  split <;> omega
theorem xor_i64 {a b : Nat} (ha : a < 9223372036854775808) (hb : b < 9223372036854775808) : bitop .xor .i64 (a : Int) (b : Int) = ((a ^^^ b : Nat) : Int) := by
  show IntKind.i64.wrap (BitVec.ofInt 64 (a : Int) ^^^ BitVec.ofInt 64 (b : Int)).toNat = _
  have hx : a ^^^ b < 2 ^ 63 := Nat.xor_lt_two_pow (by omega) (by omega)
  have h3 : (BitVec.ofInt 64 (a : Int) ^^^ BitVec.ofInt 64 (b : Int)).toNat = a ^^^ b := by
    rw [BitVec.toNat_xor, BitVec.ofInt_natCast, BitVec.ofInt_natCast, BitVec.toNat_ofNat, BitVec.toNat_ofNat, Nat.mod_eq_of_lt (by omega), Nat.mod_eq_of_lt (by omega)]
  rw [h3]
  exact wI (by omega) (by omega)
theorem x1_val {l : Int} (h0 : 0 ≤ l) (h1 : l ≤ 9223372036854775807) : x1 l = if l % 2 = 0 then l + 1 else l - 1 := by
  obtain ⟨n, rfl⟩ : ∃ n : Nat, l = n := ⟨l.toNat, by omega⟩
  unfold x1
  rw [show (1 : Int) = ((1 : Nat) : Int) from rfl, xor_i64 (by omega) (by decide), nat_xor_one]
  by_cases e : n % 2 = 0
  · rw [if_pos e, if_pos (by omega)]; omega
  · rw [if_neg e, if_neg (by omega)]; omega
theorem xor_zero {l : Int} (h0 : 0 ≤ l) (h1 : l ≤ 9223372036854775807) : bitop .xor .i64 l 0 = l := by
  obtain ⟨n, rfl⟩ : ∃ n : Nat, l = n := ⟨l.toNat, by omega⟩
  rw [show (0 : Int) = ((0 : Nat) : Int) from rfl, xor_i64 (by omega) (by decide), Nat.xor_zero]
theorem shr_one {l : Int} (h0 : 0 ≤ l) : l.fdiv (2 ^ min (Int.toNat 1) 64) = l / 2 := by
  rw [show min (Int.toNat 1) 64 = 1 from rfl, Int.fdiv_eq_ediv_of_nonneg _ (by decide)]; rfl
theorem tdiv_two {l : Int} (h0 : 0 ≤ l) : l.tdiv 2 = l / 2 := Int.tdiv_eq_ediv_of_nonneg h0
theorem tmod_two {l : Int} (h0 : 0 ≤ l) : l.tmod 2 = l % 2 := Int.tmod_eq_emod_of_nonneg h0
end Go.Ab
namespace Go.Ab
open Go
theorem fdiv_nat (n k : Nat) : ((n : Int).fdiv (2 ^ k)) = ((n / 2 ^ k : Nat) : Int) := by
  rw [Int.fdiv_eq_ediv_of_nonneg _ (by exact Int.le_of_lt (Int.pow_pos (by decide)))]; simp
theorem u64_shr {a : Int} (ha : U64 a) (h : Nat) : U64 (a.fdiv (2 ^ min h 64)) := by
  obtain ⟨n, rfl⟩ : ∃ n : Nat, a = n := ⟨a.toNat, by have := ha.1; omega⟩
  rw [fdiv_nat]
  have h1 := Nat.div_le_self n (2 ^ min h 64)
  generalize n / 2 ^ min h 64 = q at *
  exact ⟨by omega, by have := ha.2; omega⟩
theorem bit_shr {a : Int} (ha : U64 a) {h k : Nat} (hk : h + k < 64) : bit (a.fdiv (2 ^ min h 64)) k = bit a (h + k) := by
  rw [bit_testBit (u64_shr ha h) k (by omega), bit_testBit ha (h + k) hk]
  obtain ⟨n, rfl⟩ : ∃ n : Nat, a = n := ⟨a.toNat, by have := ha.1; omega⟩
  rw [fdiv_nat, Int.toNat_natCast, Int.toNat_natCast, show min h 64 = h by omega, Nat.testBit_div_two_pow, Nat.add_comm]

theorem or_i64t {a b : Nat} (ha : a < 9223372036854775808) (hb : b < 9223372036854775808) : bitop .or .i64 (a : Int) (b : Int) = ((a ||| b : Nat) : Int) := by
  show IntKind.i64.wrap (BitVec.ofInt 64 (a : Int) ||| BitVec.ofInt 64 (b : Int)).toNat = _
  have hx : a ||| b < 2 ^ 63 := Nat.or_lt_two_pow (by omega) (by omega)
  have h3 : (BitVec.ofInt 64 (a : Int) ||| BitVec.ofInt 64 (b : Int)).toNat = a ||| b := by
    rw [BitVec.toNat_or, BitVec.ofInt_natCast, BitVec.ofInt_natCast, BitVec.toNat_ofNat, BitVec.toNat_ofNat, Nat.mod_eq_of_lt (by omega), Nat.mod_eq_of_lt (by omega)]
  rw [h3]
  exact wI (by omega) (by omega)
theorem shl_one {n : Nat} (hn : n < 7) : IntKind.i64.wrap (1 * 2 ^ min n 64) = ((2 ^ n : Nat) : Int) := by
  rcases (by omega : n = 0 ∨ n = 1 ∨ n = 2 ∨ n = 3 ∨ n = 4 ∨ n = 5 ∨ n = 6) with rfl | rfl | rfl | rfl | rfl | rfl | rfl <;> decide
/-- Input i of n counts in the table t. -/
def depP (t : Int) (n i : Nat) : Prop := ∃ k, k < 2 ^ n ∧ k / 2 ^ i % 2 = 0 ∧ bit t k ≠ bit t (k + 2 ^ i)
theorem k_in : ∀ n, n < 7 → ∀ i, i < n → ∀ k, k < 2 ^ n → k / 2 ^ i % 2 = 0 → k + 2 ^ i < 2 ^ n := by decide +kernel
theorem k_or : ∀ i, i < 6 → ∀ k, k < 64 → k / 2 ^ i % 2 = 0 → k ||| 2 ^ i = k + 2 ^ i := by decide +kernel
theorem k_xor0 : ∀ i, i < 6 → ∀ k, k < 64 → k / 2 ^ i % 2 = 0 → k ^^^ 2 ^ i = k + 2 ^ i := by decide +kernel
theorem k_xora : ∀ n, n < 7 → ∀ i, i < n → ∀ k, k < 2 ^ n → k / 2 ^ i % 2 = 1 → (k ^^^ 2 ^ i) < 2 ^ n := by decide +kernel
theorem k_xorb : ∀ n, n < 7 → ∀ i, i < n → ∀ k, k < 2 ^ n → k / 2 ^ i % 2 = 1 → (k ^^^ 2 ^ i) / 2 ^ i % 2 = 0 := by decide +kernel
theorem k_xorc : ∀ n, n < 7 → ∀ i, i < n → ∀ k, k < 2 ^ n → k / 2 ^ i % 2 = 1 → (k ^^^ 2 ^ i) + 2 ^ i = k := by decide +kernel
theorem k_xor1 (n : Nat) (hn : n < 7) (i : Nat) (hi : i < n) (k : Nat) (hk : k < 2 ^ n) (h : k / 2 ^ i % 2 = 1) : (k ^^^ 2 ^ i) < 2 ^ n ∧ (k ^^^ 2 ^ i) / 2 ^ i % 2 = 0 ∧ (k ^^^ 2 ^ i) + 2 ^ i = k := ⟨k_xora n hn i hi k hk h, k_xorb n hn i hi k hk h, k_xorc n hn i hi k hk h⟩
theorem k_high : ∀ n, n < 6 → ∀ i, i < n → ∀ k, k < 2 ^ n → (2 ^ n + k) / 2 ^ i % 2 = k / 2 ^ i % 2 := by decide +kernel
theorem p_le : ∀ n, n < 7 → 2 ^ n ≤ 64 := by decide
/-- The same, as it is said elsewhere. -/
theorem depP_iff {t : Int} {n i : Nat} (hn : n < 7) (hi : i < n) : depP t n i ↔ ∃ k, k < 2 ^ n ∧ bit t k ≠ bit t (k ^^^ 2 ^ i) := by
  have h64 := p_le n hn
  constructor
  · rintro ⟨k, h1, h2, h3⟩
    exact ⟨k, h1, by rw [k_xor0 i (by omega) k (by omega) h2]; exact h3⟩
  · rintro ⟨k, h1, h3⟩
    rcases (by omega : k / 2 ^ i % 2 = 0 ∨ k / 2 ^ i % 2 = 1) with h | h
    · exact ⟨k, h1, h, by rw [← k_xor0 i (by omega) k (by omega) h]; exact h3⟩
    · obtain ⟨q1, q2, q3⟩ := k_xor1 n hn i hi k h1 h
      exact ⟨k ^^^ 2 ^ i, q1, q2, by rw [q3]; exact Ne.symm h3⟩
theorem dep_low {t b : Int} {n i : Nat} (hn : n < 6) (hb : ∀ k, k < 2 ^ n → bit b k = bit t k) (hi : i < n) (h : depP b n i) : depP t (n + 1) i := by
  obtain ⟨k, h1, h2, h3⟩ := h
  have h4 := k_in n (by omega) i hi k h1 h2
  exact ⟨k, by rw [Nat.pow_succ]; omega, h2, by rw [← hb k h1, ← hb _ h4]; exact h3⟩
theorem dep_high {t a : Int} {n i : Nat} (hn : n < 6) (ha : ∀ k, k < 2 ^ n → bit a k = bit t (2 ^ n + k)) (hi : i < n) (h : depP a n i) : depP t (n + 1) i := by
  obtain ⟨k, h1, h2, h3⟩ := h
  have h4 := k_in n (by omega) i hi k h1 h2
  exact ⟨2 ^ n + k, by rw [Nat.pow_succ]; omega, by rw [k_high n hn i hi k h1]; exact h2, by rw [Nat.add_assoc, ← ha k h1, ← ha _ h4]; exact h3⟩
theorem dep_top {t a b : Int} {n : Nat} (hn : n < 6) (ha : ∀ k, k < 2 ^ n → bit a k = bit t (2 ^ n + k)) (hb : ∀ k, k < 2 ^ n → bit b k = bit t k) (h : ∃ k, k < 2 ^ n ∧ bit a k ≠ bit b k) : depP t (n + 1) n := by
  obtain ⟨k, h1, h2⟩ := h
  refine ⟨k, by rw [Nat.pow_succ]; omega, by rw [Nat.div_eq_of_lt h1], ?_⟩
  rw [Nat.add_comm k, ← ha k h1, ← hb k h1]
  exact Ne.symm h2
/-- The low 2^n bits of x. -/
def lowT (n : Nat) (x : Int) : Int := bitop .and .u64 x (2 ^ 2 ^ n - 1)
theorem mask_bit : ∀ n, n < 6 → ∀ k, k < 64 → bit (2 ^ 2 ^ n - 1) k = decide (k < 2 ^ n) := by decide +kernel
theorem low_bit {n k : Nat} (hn : n < 6) (x : Int) (hk : k < 2 ^ n) : bit (lowT n x) k = bit x k := by
  have := p_le n (by omega)
  unfold lowT
  rw [bit_and, mask_bit n hn k (by omega), decide_eq_true hk, Bool.and_true]
theorem low_ne {n : Nat} (hn : n < 6) {x y : Int} (h : lowT n x ≠ lowT n y) : ∃ k, k < 2 ^ n ∧ bit (lowT n x) k ≠ bit (lowT n y) k := by
  refine Classical.byContradiction fun hc => h (u64_ext (u64_and _ _) (u64_and _ _) fun k hk => ?_)
  by_cases e : k < 2 ^ n
  · exact Classical.byContradiction fun hne => hc ⟨k, e, hne⟩
  · unfold lowT
    rw [bit_and, bit_and, mask_bit n hn k hk, decide_eq_false e, Bool.and_false, Bool.and_false]
end Go.Ab
