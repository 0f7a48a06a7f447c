/- Tables under moves of their inputs. -/
import Derived.Test.YtiecnmojbdogfaaLwCut
set_option linter.unusedSimpArgs false
set_option linter.unusedVariables false
namespace Go.Ab
open Go
theorem rowB_test (f : Nat → Bool) : ∀ n q, (rowB f n).testBit q = (decide (q < n) && f q)
  | 0, q => by simp [rowB]
  | n + 1, q => by
    have ih := rowB_test f n
    have hl := rowB_lt f n
    show (rowB f n + if f n = true then 2 ^ n else 0).testBit q = _
    cases hf : f n with
    | false =>
      rw [if_neg (by simp), Nat.add_zero, ih q]
      by_cases e : q = n
      · subst e; simp [hf]
      · by_cases l : q < n
        · simp [l, show q < n + 1 by omega]
        · simp [l, show ¬ q < n + 1 by omega]
    | true =>
      rw [if_pos rfl, Nat.add_comm]
      by_cases e : q = n
      · subst e
        rw [Nat.testBit_two_pow_add_eq, ih q]; simp [hf]
      · by_cases l : q < n
        · rw [Nat.testBit_two_pow_add_gt l, ih q]; simp [l, show q < n + 1 by omega]
        · rw [Nat.testBit_lt_two_pow (Nat.lt_of_lt_of_le (show 2 ^ n + rowB f n < 2 ^ (n + 1) by rw [Nat.pow_succ]; omega) (Nat.pow_le_pow_right (by decide) (show n + 1 ≤ q by omega)))]
          simp [show ¬ q < n + 1 by omega]
theorem rowB_xor {n k x : Nat} (hk : k < 2 ^ n) (hx : x < 2 ^ n) : rowB (fun q => k.testBit q != x.testBit q) n = k ^^^ x := Nat.eq_of_testBit_eq fun q => by
  rw [rowB_test, Nat.testBit_xor]
  by_cases l : q < n
  · simp [l]
  · have hp : 2 ^ n ≤ 2 ^ q := Nat.pow_le_pow_right (by decide) (by omega)
    rw [Nat.testBit_lt_two_pow (Nat.lt_of_lt_of_le hk hp), Nat.testBit_lt_two_pow (Nat.lt_of_lt_of_le hx hp)]
    simp
theorem bit_one' : ∀ k, k < 64 → bit 1 k = decide (k = 0) := by decide +kernel
theorem and_u64 {t : Int} (ht : U64 t) {j : Nat} (hj : j < 64) : bitop .and .u64 (t.fdiv (2 ^ min j 64)) 1 = if bit t j = true then 1 else 0 := by
  refine u64_ext (u64_and _ _) (by split <;> exact ⟨by decide, by decide⟩) fun k hk => ?_
  rw [bit_and, bit_shr' ht j hk, bit_one' k hk]
  by_cases e : k = 0
  · subst e
    cases hb : bit t j with
    | true => rw [if_pos rfl, bit_one' 0 (by decide)]; simp [hb]
    | false => rw [if_neg (by simp), bit_zero]; simp [hb]
  · have : bit (if bit t j = true then (1 : Int) else 0) k = false := by
      split
      · rw [bit_one' k hk]; simp [e]
      · exact bit_zero k
    rw [this]; simp [e]
theorem row_step : ∀ i : Nat, i < 6 → ∀ j : Nat, j < 64 → j < 2 ^ i → ∀ b : Bool, bitop .or .i64 (j : Int) (IntKind.i64.wrap ((if b = true then 1 else 0) * 2 ^ min i 64)) = ((j + (if b = true then 2 ^ i else 0) : Nat) : Int) := by decide +kernel
theorem xor_ii : ∀ k : Nat, k < 64 → ∀ x : Nat, x < 64 → bitop .xor .i64 (k : Int) (x : Int) = ((k ^^^ x : Nat) : Int) ∧ k ^^^ x < 64 := by decide +kernel
/-- One bit of another table. -/
theorem put_bit {t s : Int} {k j : Nat} {c : Nat → Bool} (hk : k < 64) (h : ∀ q, q < 64 → bit s q = (decide (q < k) && c q)) (hc : c k = bit t j) :
    ∀ q, q < 64 → bit (bitop .or .u64 s (IntKind.u64.wrap ((if bit t j = true then 1 else 0) * 2 ^ min k 64))) q = (decide (q < k + 1) && c q) := by
  cases hb : bit t j with
  | true =>
    rw [hb] at hc
    rw [if_pos rfl, shl_pow hk]
    exact fill_step hk h hc
  | false =>
    rw [hb] at hc
    rw [if_neg (by simp), Int.zero_mul, show IntKind.u64.wrap 0 = 0 from rfl]
    intro q hq
    rw [bit_or, bit_zero, Bool.or_false]
    exact fill_skip h hc q hq
/-- What is amiss with the place of an input. -/
def MvB (x : Nat → Int) (n : Int) (i : Nat) : Prop := x i < 0 ∨ n ≤ x i ∨ ∃ j, j < i ∧ x j = x i
def MvOk (x : Nat → Int) (l : Nat) (n : Int) : Prop := 0 ≤ n ∧ n ≤ 6 ∧ l ≤ 6 ∧ ∀ i, i < l → ¬ MvB x n i
/-- A table whose inputs move. -/
def MovT (t s : Int) (x : Nat → Int) (l : Nat) (n : Int) : Prop := U64 s ∧ (¬ MvOk x l n → s = 0) ∧ (MvOk x l n → ∀ k, k < 64 → bit s k = (decide (k < 2 ^ n.toNat) && bit t (rowB (fun i => k.testBit (x i).toNat) l)))
theorem MovT.eq {t s s' : Int} {x : Nat → Int} {l : Nat} {n : Int} (h : MovT t s x l n) (k : MovT t s' x l n) : s = s' := by
  by_cases e : MvOk x l n
  · exact u64_ext h.1 k.1 fun j hj => by rw [h.2.2 e j hj, k.2.2 e j hj]
  · rw [h.2.1 e, k.2.1 e]
/-- A table whose inputs are flipped. -/
def FlpOk (x n : Int) : Prop := 0 ≤ n ∧ n ≤ 6 ∧ 0 ≤ x ∧ x < ((2 ^ n.toNat : Nat) : Int)
def FlpT (t s x n : Int) : Prop := U64 s ∧ (¬ FlpOk x n → s = 0) ∧ (FlpOk x n → ∀ k, k < 64 → bit s k = (decide (k < 2 ^ n.toNat) && bit t (k ^^^ x.toNat)))
theorem FlpT.eq {t s s' x n : Int} (h : FlpT t s x n) (k : FlpT t s' x n) : s = s' := by
  by_cases e : FlpOk x n
  · exact u64_ext h.1 k.1 fun j hj => by rw [h.2.2 e j hj, k.2.2 e j hj]
  · rw [h.2.1 e, k.2.1 e]
end Go.Ab
