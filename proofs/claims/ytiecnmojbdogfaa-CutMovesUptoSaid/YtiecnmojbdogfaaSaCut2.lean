/- Walks: Depends, Needs. -/
import Derived.Test.YtiecnmojbdogfaaSaCut1
import Derived.Test.YtiecnmojbdogfaaLwCone
import Derived.Test.YtiecnmojbdogfaaFwZ
set_option linter.unusedSimpArgs false
set_option linter.unusedVariables false
namespace Go.Ab
open Go
def a14_0 : AC := (.seq (.ops [⟨(some 14), none, (.v (.bin .lss (.t 13) (.t 12)))⟩]) (.seq (.cond (.t 14) .skip (.exit 0)) (.seq (.block 1 (.seq (.ops [⟨(some 15), none, (.v (.mv (.t 13)))⟩, ⟨(some 5), none, (.v (.mv (.t 15)))⟩]) (.seq (.any [⟨(some 16), none, (.v (.mv (.t 0)))⟩, ⟨(some 17), none, (.v (.mv (.t 5)))⟩, ⟨(some 18), none, (.v (.idx 1 (.t 16) (.t 17)))⟩, ⟨(some 19), none, (.v (.load 1 false (.t 18)))⟩, ⟨(some 20), none, (.v (.mv (.t 1)))⟩, ⟨(some 21), none, (.v (.mv (.t 5)))⟩, ⟨(some 22), none, (.v (.idx 1 (.t 20) (.t 21)))⟩, ⟨(some 23), none, (.v (.load 1 false (.t 22)))⟩, ⟨(some 24), none, (.v (.bin .neq (.t 19) (.t 23)))⟩] [[], [], [0, 1], [2], [], [], [4, 5], [6], [3, 7]]) (.cond (.t 24) (.seq (.ops [⟨(some 4), none, (.v (.mv (.c (.bool false))))⟩]) .ret) .skip)))) (.ops [⟨(some 25), none, (.v (.bin .add (.t 13) (.c (.int .i64 1))))⟩, ⟨(some 13), none, (.v (.mv (.t 25)))⟩]))))
def a14 : AC := (.seq (.ops [⟨(some 4), none, (.v (.mv (.c (.bool false))))⟩]) (.seq (.seq (.ops [⟨(some 6), none, (.v (.mv (.t 0)))⟩, ⟨(some 7), none, (.v (.len (.t 6)))⟩, ⟨(some 8), none, (.v (.mv (.t 1)))⟩, ⟨(some 9), none, (.v (.len (.t 8)))⟩, ⟨(some 10), none, (.v (.bin .neq (.t 7) (.t 9)))⟩]) (.cond (.t 10) (.seq (.ops [⟨(some 4), none, (.v (.mv (.c (.bool false))))⟩]) .ret) .skip)) (.seq (.seq (.ops [⟨(some 11), none, (.v (.mv (.t 0)))⟩, ⟨(some 12), none, (.v (.len (.t 11)))⟩, ⟨(some 13), none, (.v (.mv (.c (.int .i64 0))))⟩]) (.block 0 (.loop a14_0))) (.seq (.ops [⟨(some 4), none, (.v (.mv (.c (.bool true))))⟩]) .ret))))
def r14 : List AI := [(.mv (.t 4))]
theorem f14 : Fn PP 14 2 a14 r14 := Fn.of (fn := Go.Proofs.Try.f14) (by kernel_rfl) (by kernel_rfl) (by kernel_rfl)
def a35 : AC := (.seq (.ops [⟨(some 2), none, (.v (.mv (.c (.int .u64 0))))⟩]) (.seq (.block 0 (.seq (.ops [⟨(some 4), none, (.v (.mv (.t 0)))⟩, ⟨(some 5), none, (.v (.bin .lss (.t 4) (.c (.int .i64 0))))⟩, ⟨(some 6), none, (.v (.mv (.t 5)))⟩, ⟨(some 7), (some (6, false)), (.v (.mv (.t 0)))⟩, ⟨(some 8), (some (6, false)), (.v (.bin .gtr (.t 7) (.c (.int .i64 6))))⟩, ⟨(some 9), none, (.v (.pick (.t 6) (.c (.bool true)) (.t 8)))⟩, ⟨(some 3), none, (.v (.mv (.t 9)))⟩]) (.cond (.t 3) (.seq (.ops [⟨(some 2), none, (.v (.mv (.c (.int .u64 0))))⟩]) .ret) (.seq (.ops [⟨(some 11), none, (.v (.mv (.t 0)))⟩, ⟨(some 12), none, (.v (.bin .eql (.t 11) (.c (.int .i64 6))))⟩, ⟨(some 10), none, (.v (.mv (.t 12)))⟩]) (.cond (.t 10) (.seq (.ops [⟨(some 2), none, (.v (.mv (.c (.int .u64 18446744073709551615))))⟩]) .ret) .skip))))) (.seq (.ops [⟨(some 13), none, (.v (.mv (.t 0)))⟩, ⟨(some 14), none, (.v (.bin .shl (.c (.int .u64 1)) (.t 13)))⟩, ⟨(some 15), none, (.v (.bin .shl (.c (.int .u64 1)) (.t 14)))⟩, ⟨(some 16), none, (.v (.bin .sub (.t 15) (.c (.int .u64 1))))⟩, ⟨(some 2), none, (.v (.mv (.t 16)))⟩]) .ret)))
def r35 : List AI := [(.mv (.t 2))]
theorem f35 : Fn PP 35 1 a35 r35 := Fn.of (fn := Go.Proofs.Try.f35) (by kernel_rfl) (by kernel_rfl) (by kernel_rfl)
def a15_0 : AC := (.seq (.ops [⟨(some 11), none, (.v (.bin .lss (.t 10) (.t 9)))⟩]) (.seq (.cond (.t 11) .skip (.exit 0)) (.seq (.block 1 (.seq (.ops [⟨(some 12), none, (.v (.mv (.t 10)))⟩, ⟨(some 6), none, (.v (.mv (.t 12)))⟩]) (.seq (.ops [⟨(some 13), none, (.v (.mv (.t 1)))⟩, ⟨(some 14), none, (.v (.mn (.t 13) (.c (.int .i64 6))))⟩, ⟨(some 15), none, (.call (.c (.fn 35 [])) [(.t 14)])⟩, ⟨(some 7), none, (.v (.mv (.t 15)))⟩]) (.seq (.ops [⟨(some 16), none, (.v (.mv (.t 0)))⟩, ⟨(some 17), none, (.v (.mv (.t 6)))⟩, ⟨(some 18), none, (.call (.c (.fn 12 [])) [(.t 16), (.t 17), (.c (.bool false))])⟩, ⟨(some 19), none, (.v (.mv (.t 0)))⟩, ⟨(some 20), none, (.v (.mv (.t 6)))⟩, ⟨(some 21), none, (.call (.c (.fn 12 [])) [(.t 19), (.t 20), (.c (.bool true))])⟩, ⟨(some 22), none, (.v (.bin .xor (.t 18) (.t 21)))⟩, ⟨(some 23), none, (.v (.mv (.t 7)))⟩, ⟨(some 24), none, (.v (.bin .and (.t 22) (.t 23)))⟩, ⟨(some 25), none, (.v (.bin .neq (.t 24) (.c (.int .u64 0))))⟩]) (.cond (.t 25) (.ops [⟨(some 26), none, (.v (.mv (.t 5)))⟩, ⟨(some 27), none, (.v (.mv (.t 6)))⟩, ⟨(some 28), none, (.e (.lit 28 3 1 1 [(.int .i64 0)] [(0, (.t 27))]))⟩, ⟨(some 29), none, (.e (.app 29 3 1 8 (.t 26) (.t 28)))⟩, ⟨(some 5), none, (.v (.mv (.t 29)))⟩]) .skip))))) (.ops [⟨(some 30), none, (.v (.bin .add (.t 10) (.c (.int .i64 1))))⟩, ⟨(some 10), none, (.v (.mv (.t 30)))⟩]))))
def a15 : AC := (.seq (.ops [⟨(some 4), none, (.v (.mv (.c .cap0)))⟩]) (.seq (.ops [⟨(some 5), none, (.v (.mv (.c .cap0)))⟩]) (.seq (.seq (.ops [⟨(some 8), none, (.v (.mv (.t 1)))⟩, ⟨(some 9), none, (.v (.mn (.t 8) (.c (.int .i64 6))))⟩, ⟨(some 10), none, (.v (.mv (.c (.int .i64 0))))⟩]) (.block 0 (.loop a15_0))) (.seq (.ops [⟨(some 31), none, (.v (.mv (.t 5)))⟩, ⟨(some 4), none, (.v (.mv (.t 31)))⟩]) .ret))))
def r15 : List AI := [(.mv (.t 4))]
theorem f15 : Fn PP 15 2 a15 r15 := Fn.of (fn := Go.Proofs.Try.f15) (by kernel_rfl) (by kernel_rfl) (by kernel_rfl)
def a16_1 : AC := (.seq (.ops [⟨(some 18), none, (.v (.bin .lss (.t 17) (.t 16)))⟩]) (.seq (.cond (.t 18) .skip (.exit 2)) (.seq (.block 3 (.seq (.ops [⟨(some 19), none, (.v (.mv (.t 17)))⟩, ⟨(some 7), none, (.v (.mv (.t 19)))⟩]) (.seq (.any [⟨(some 20), none, (.v (.mv (.t 0)))⟩, ⟨(some 21), none, (.v (.mv (.t 7)))⟩, ⟨(some 22), none, (.call (.c (.fn 33 [])) [(.t 20), (.t 21)])⟩, ⟨(some 23), none, (.v (.mv (.t 0)))⟩, ⟨(some 24), none, (.v (.mv (.t 7)))⟩, ⟨(some 25), none, (.v (.mv (.t 6)))⟩, ⟨(some 26), none, (.v (.bin .shl (.c (.int .i64 1)) (.t 25)))⟩, ⟨(some 27), none, (.v (.bin .xor (.t 24) (.t 26)))⟩, ⟨(some 28), none, (.call (.c (.fn 33 [])) [(.t 23), (.t 27)])⟩, ⟨(some 29), none, (.v (.beq true (.t 22) (.t 28)))⟩] [[], [], [0, 1], [], [], [], [5], [4, 6], [3, 7, 2], [2, 8]]) (.cond (.t 29) (.seq (.ops [⟨(some 30), none, (.v (.mv (.t 5)))⟩, ⟨(some 31), none, (.v (.mv (.t 6)))⟩, ⟨(some 32), none, (.e (.lit 32 3 1 1 [(.int .i64 0)] [(0, (.t 31))]))⟩, ⟨(some 33), none, (.e (.app 33 3 1 8 (.t 30) (.t 32)))⟩, ⟨(some 5), none, (.v (.mv (.t 33)))⟩]) (.exit 2)) .skip)))) (.ops [⟨(some 34), none, (.v (.bin .add (.t 17) (.c (.int .i64 1))))⟩, ⟨(some 17), none, (.v (.mv (.t 34)))⟩]))))
def a16_0 : AC := (.seq (.ops [⟨(some 13), none, (.v (.bin .lss (.t 12) (.t 11)))⟩]) (.seq (.cond (.t 13) .skip (.exit 0)) (.seq (.block 1 (.seq (.ops [⟨(some 14), none, (.v (.mv (.t 12)))⟩, ⟨(some 6), none, (.v (.mv (.t 14)))⟩]) (.seq (.ops [⟨(some 15), none, (.v (.mv (.t 1)))⟩, ⟨(some 16), none, (.v (.bin .shl (.c (.int .i64 1)) (.t 15)))⟩, ⟨(some 17), none, (.v (.mv (.c (.int .i64 0))))⟩]) (.block 2 (.loop a16_1))))) (.ops [⟨(some 35), none, (.v (.bin .add (.t 12) (.c (.int .i64 1))))⟩, ⟨(some 12), none, (.v (.mv (.t 35)))⟩]))))
def a16 : AC := (.seq (.ops [⟨(some 4), none, (.v (.mv (.c .cap0)))⟩]) (.seq (.ops [⟨(some 8), none, (.v (.mv (.t 1)))⟩, ⟨(some 9), none, (.v (.mn (.t 8) (.c (.int .i64 6))))⟩, ⟨(some 1), none, (.v (.mv (.t 9)))⟩]) (.seq (.ops [⟨(some 5), none, (.v (.mv (.c .cap0)))⟩]) (.seq (.seq (.ops [⟨(some 10), none, (.v (.mv (.t 1)))⟩, ⟨(some 11), none, (.v (.mx (.t 10) (.c (.int .i64 0))))⟩, ⟨(some 12), none, (.v (.mv (.c (.int .i64 0))))⟩]) (.block 0 (.loop a16_0))) (.seq (.ops [⟨(some 36), none, (.v (.mv (.t 5)))⟩, ⟨(some 4), none, (.v (.mv (.t 36)))⟩]) .ret)))))
def r16 : List AI := [(.mv (.t 4))]
theorem f16 : Fn PP 16 2 a16 r16 := Fn.of (fn := Go.Proofs.Try.f16) (by kernel_rfl) (by kernel_rfl) (by kernel_rfl)
theorem p14 (n m : Nat) (x y : Nat → Int) (f g : Nat → AV) (hf : ∀ i, i < n → f i = .int .i64 (x i)) (hg : ∀ i, i < m → g i = .int .i64 (y i)) (hn : n ≤ 1048576) (hm : m ≤ 1048576) :
    Pure PP 14 [.fs n f, .fs m g] fun r => ∃ b, r = .bool b ∧ (b = true ↔ n = m ∧ ∀ i, i < n → x i = y i) := by
  refine Fn.pure fmix f14 ?_
  unfold a14 r14
  simp -implicitDefEqProofs only [vqa, Nat.reduceEqDiff, Nat.reduceAdd, reduceIte, Nat.reduceLeDiff, Nat.reduceBEq, Nat.reduceLT, Nat.reduceSub, Int.reduceLT, Int.reduceLE, Int.reduceEq, Int.reduceToNat, Nat.reduceMul, eq_self, implies_true, forall_const]
  refine ⟨fun h => ⟨_, rfl, ⟨fun e => Bool.noConfusion e, fun e => absurd (congrArg Nat.cast e.1) h⟩⟩, fun h => ?_⟩
  obtain rfl : n = m := by omega
  refine vFor n (fun i e mm => e 0 = .fs n f ∧ e 1 = .fs n g ∧ e 12 = .int .i64 n ∧ e 13 = .int .i64 i ∧ ∀ j, j < i → x j = y j) ?_ ?_ ?_
  · simp -implicitDefEqProofs only [vqa, Nat.reduceEqDiff, Nat.reduceAdd, reduceIte, Nat.reduceLeDiff, Nat.reduceBEq, Nat.reduceLT, Nat.reduceSub, Int.reduceLT, Int.reduceLE, Int.reduceEq, Int.reduceToNat, Nat.reduceMul, eq_self, implies_true, forall_const]
  · rintro i e mm hi hi' ⟨h0, h1, h12, h13, hs⟩
    unfold a14_0
    simp -implicitDefEqProofs only [vqa, Nat.reduceEqDiff, Nat.reduceAdd, reduceIte, Nat.reduceLeDiff, Nat.reduceBEq, Nat.reduceLT, Nat.reduceSub, Int.reduceLT, Int.reduceLE, Int.reduceEq, Int.reduceToNat, Nat.reduceMul, eq_self, implies_true, forall_const, h0, h1, h12, h13, hi']
    refine vAny [0, 1, 2, 3, 4, 5, 6, 7, 8] 9 allL rfl rfl ?_
    simp -implicitDefEqProofs only [vqa, Nat.reduceEqDiff, Nat.reduceAdd, reduceIte, Nat.reduceLeDiff, Nat.reduceBEq, Nat.reduceLT, Nat.reduceSub, Int.reduceLT, Int.reduceLE, Int.reduceEq, Int.reduceToNat, Nat.reduceMul, eq_self, implies_true, forall_const, h0, h1, h12, h13, hf i hi, hg i hi]
    refine ⟨by omega, by omega, fun k => ⟨_, rfl, ⟨fun e => Bool.noConfusion e, fun e => absurd (e i hi) k⟩⟩, fun k => ⟨hi, wI (by omega) (by omega), fun j hj => ?_⟩⟩
    by_cases e : j = i
    · subst e; exact Classical.not_not.1 k
    · exact hs j (by omega)
  · rintro e mm ⟨h0, h1, h12, h13, hs⟩
    unfold a14_0
    simp -implicitDefEqProofs only [vqa, Nat.reduceEqDiff, Nat.reduceAdd, reduceIte, Nat.reduceLeDiff, Nat.reduceBEq, Nat.reduceLT, Nat.reduceSub, Int.reduceLT, Int.reduceLE, Int.reduceEq, Int.reduceToNat, Nat.reduceMul, eq_self, implies_true, forall_const, h0, h1, h12, h13]
    exact ⟨_, rfl, ⟨fun _ => hs, fun _ => rfl⟩⟩
theorem maskF_eq' {n : Int} (h0 : 0 ≤ n) (h1 : n < 6) : maskF n = IntKind.u64.wrap (IntKind.u64.wrap (1 * 2 ^ min (IntKind.u64.wrap (1 * 2 ^ min n.toNat 64)).toNat 64) - 1) := by
  unfold maskF
  rw [if_neg (by omega), if_neg (by omega), if_neg (by omega)]
theorem p35 (n : Int) : Pure PP 35 [.int .i64 n] fun r => r = .int .u64 (maskF n) := by
  refine Fn.pure fmix f35 ?_
  unfold a35 r35
  simp -implicitDefEqProofs only [vqa, Nat.reduceEqDiff, Nat.reduceAdd, reduceIte, Nat.reduceLeDiff, Nat.reduceBEq, Nat.reduceLT, Nat.reduceSub, Int.reduceLT, Int.reduceLE, Int.reduceEq, Int.reduceToNat, Nat.reduceMul, eq_self, implies_true, forall_const]
  refine ⟨fun h0 => ⟨fun h1 => ?_, fun h1 => ⟨fun h2 => ?_, fun h2 => ⟨by omega, ?_, ?_⟩⟩⟩, fun h0 => ?_⟩
  · unfold maskF; rw [if_neg h0, if_pos h1]
  · unfold maskF; rw [if_neg h0, if_neg h1, if_pos h2]
  · rw [IntKind.wrap_u64]; omega
  · rw [maskF_eq' (by omega) (by omega)]
  · unfold maskF; rw [if_pos h0]
theorem maskF_bit : ∀ n : Nat, n < 7 → ∀ k, k < 64 → bit (maskF n) k = decide (k < 2 ^ n) := by decide +kernel
theorem bit_xorw (a b : Int) (k : Nat) : bit (bitop .xor .u64 a b) k = (bit a k != bit b k) := by
  show (BitVec.ofInt 64 (IntKind.u64.wrap (BitVec.ofInt 64 a ^^^ BitVec.ofInt 64 b).toNat)).getLsbD k = _
  rw [ofInt_toNat]; simp [bit]
/-- Does a table of n inputs hang on input i? -/
def depB (t : Int) (n i : Nat) : Bool := (List.range (2 ^ n)).any fun k => bit t k != bit t (k ^^^ 2 ^ i)
theorem depB_iff (t : Int) (n i : Nat) : depB t n i = true ↔ ∃ k, k < 2 ^ n ∧ bit t k ≠ bit t (k ^^^ 2 ^ i) := by
  unfold depB
  simp
/-- The numbers below n for which p holds. -/
def depL (p : Nat → Bool) : Nat → List Nat
  | 0 => []
  | n + 1 => if p n = true then depL p n ++ [n] else depL p n
def ivc (k : Nat) : AV := .int .i64 (k : Nat)
theorem depL_le (p : Nat → Bool) : ∀ n, (depL p n).length ≤ n
  | 0 => Nat.le_refl _
  | n + 1 => by
    have := depL_le p n
    unfold depL
    split <;> simp <;> omega
/-- min n 6, not below 0. -/
def six (n : Int) : Nat := (if (6 : Int) < n then 6 else n).toNat
theorem six_le (n : Int) : six n ≤ 6 := by unfold six; split <;> omega
theorem depB_cof {t a b : Int} {n i : Nat} (hn : n < 7) (hi : i < n) (ha : CofT t a i false) (hb : CofT t b i true) : (bitop .and .u64 (bitop .xor .u64 a b) (maskF n) = 0) ↔ depB t n i = false := by
  have hi6 : i < 6 := by omega
  have h64 : 2 ^ n ≤ 64 := by
    have := Nat.pow_le_pow_right (n := 2) (by decide) (show n ≤ 6 by omega)
    simpa using this
  have hx : ∀ j, j < 64 → bit (bitop .and .u64 (bitop .xor .u64 a b) (maskF n)) j = ((bit t (setb j i false) != bit t (setb j i true)) && decide (j < 2 ^ n)) := fun j hj => by
    rw [bit_and, bit_xorw, maskF_bit n hn j hj, ha.2.2 i hi6 rfl j hj, hb.2.2 i hi6 rfl j hj]
  constructor
  · intro h
    cases hd : depB t n i with
    | false => rfl
    | true =>
      obtain ⟨k, hk, hne⟩ := (depB_iff t n i).1 hd
      have hk6 : k < 64 := by omega
      have := hx k hk6
      rw [h, bit_zero] at this
      obtain ⟨_, x1, x2⟩ := setb_x k hk6 i hi6
      have s1 := setb_t k hk6 i hi6
      have s2 := setb_f k hk6 i hi6
      cases hb : k.testBit i with
      | false =>
        rw [hb] at s2
        simp only [Bool.false_eq_true, if_false] at s2
        rw [s2, ← x1 hb] at this
        simp [hk] at this
        exact absurd this hne
      | true =>
        rw [hb] at s1
        simp only [if_true] at s1
        rw [s1, ← x2 hb] at this
        simp [hk] at this
        exact absurd this.symm hne
  · intro h
    refine u64_ext (u64_and _ _) ⟨by decide, by decide⟩ fun j hj => ?_
    rw [hx j hj, bit_zero]
    by_cases hl : j < 2 ^ n
    · have hno : ¬ ∃ k, k < 2 ^ n ∧ bit t k ≠ bit t (k ^^^ 2 ^ i) := fun q => by
        rw [(depB_iff t n i).2 q] at h; cases h
      have h1 : bit t (setb j i false) = bit t (setb j i true) := Classical.byContradiction fun hne => hno ⟨setb j i false, (setb_in n hn i hi j hl).2, by rw [(setb_x j hj i hi6).1]; exact hne⟩
      rw [h1]; simp
    · simp [hl]
theorem p15 (t n : Int) (ht : U64 t) : Pure PP 15 [.int .u64 t, .int .i64 n] fun r => ∃ f, r = .fs (depL (depB t (six n)) (six n)).length f ∧ ∀ i, i < (depL (depB t (six n)) (six n)).length → f i = ((depL (depB t (six n)) (six n)).map ivc).getD i .undef := by
  refine Fn.pure fmix f15 ?_
  unfold a15 r15
  simp -implicitDefEqProofs only [vqa, Nat.reduceEqDiff, Nat.reduceAdd, reduceIte, Nat.reduceLeDiff, Nat.reduceBEq, Nat.reduceLT, Nat.reduceSub, Int.reduceLT, Int.reduceLE, Int.reduceEq, Int.reduceToNat, Nat.reduceMul, eq_self, implies_true, forall_const]
  have hN : six n = (if (6 : Int) < n then 6 else n).toNat := rfl
  have h6 := six_le n
  generalize hM : (if (6 : Int) < n then 6 else n) = M at *
  have hend : ¬ ((six n : Nat) : Int) < M := by omega
  refine vFor (six n) (fun i e m => e 0 = .int .u64 t ∧ e 1 = .int .i64 n ∧ e 9 = .int .i64 M ∧ e 10 = .int .i64 i ∧ AccL [29] 3 1 ((depL (depB t (six n)) i).map ivc) (e 5) m) ?_ ?_ ?_
  · simp -implicitDefEqProofs only [vqa, Nat.reduceEqDiff, Nat.reduceAdd, reduceIte, Nat.reduceLeDiff, Nat.reduceBEq, Nat.reduceLT, Nat.reduceSub, Int.reduceLT, Int.reduceLE, Int.reduceEq, Int.reduceToNat, Nat.reduceMul, eq_self, implies_true, forall_const]
    exact .inl ⟨rfl, rfl⟩
  · rintro i e m hi hi' ⟨h0, h1, h9, h10, hA⟩
    have hi2 : (i : Int) < M := by omega
    have hMn : M = (six n : Nat) := by omega
    unfold a15_0
    simp -implicitDefEqProofs only [vqa, Nat.reduceEqDiff, Nat.reduceAdd, reduceIte, Nat.reduceLeDiff, Nat.reduceBEq, Nat.reduceLT, Nat.reduceSub, Int.reduceLT, Int.reduceLE, Int.reduceEq, Int.reduceToNat, Nat.reduceMul, eq_self, implies_true, forall_const, h0, h1, h9, h10, hi2, hM]
    refine CallW.sc (p35 M) rfl ⟨trivial, trivial⟩ fun r hr => ⟨by subst hr; rfl, ?_⟩
    subst hr
    simp -implicitDefEqProofs only [vqa, Nat.reduceEqDiff, Nat.reduceAdd, reduceIte, Nat.reduceLeDiff, Nat.reduceBEq, Nat.reduceLT, Nat.reduceSub, Int.reduceLT, Int.reduceLE, Int.reduceEq, Int.reduceToNat, Nat.reduceMul, eq_self, implies_true, forall_const, h0, h1, h9, h10, hi2, hM]
    refine CallW.sc (p12 t i false ht) rfl ⟨trivial, trivial, trivial, trivial⟩ fun r ⟨a, hr, ha⟩ => ⟨by subst hr; rfl, ?_⟩
    subst hr
    simp -implicitDefEqProofs only [vqa, Nat.reduceEqDiff, Nat.reduceAdd, reduceIte, Nat.reduceLeDiff, Nat.reduceBEq, Nat.reduceLT, Nat.reduceSub, Int.reduceLT, Int.reduceLE, Int.reduceEq, Int.reduceToNat, Nat.reduceMul, eq_self, implies_true, forall_const, h0, h1, h9, h10, hi2, hM]
    refine CallW.sc (p12 t i true ht) rfl ⟨trivial, trivial, trivial, trivial⟩ fun r ⟨b, hr, hb⟩ => ⟨by subst hr; rfl, ?_⟩
    subst hr
    have hcof := depB_cof (t := t) (show six n < 7 by omega) hi ha hb
    rw [← hMn] at hcof
    cases hd : depB t (six n) i with
    | true =>
      have hne : ¬ (bitop .and .u64 (bitop .xor .u64 a b) (maskF M) = 0) := fun h => by rw [hcof.1 h] at hd; cases hd
      have hst : (depL (depB t (six n)) (i + 1)).map ivc = (depL (depB t (six n)) i).map ivc ++ [ivc i] := by simp [depL, hd]
      have hle : ((depL (depB t (six n)) i).map ivc).length ≤ i := by rw [List.length_map]; exact depL_le _ _
      rcases hA with ⟨hz, h5⟩ | ⟨s, ver, g, hs, h5, hm, hg⟩
      · simp -implicitDefEqProofs only [vqa, Nat.reduceEqDiff, Nat.reduceAdd, reduceIte, Nat.reduceLeDiff, Nat.reduceBEq, Nat.reduceLT, Nat.reduceSub, Int.reduceLT, Int.reduceLE, Int.reduceEq, Int.reduceToNat, Nat.reduceMul, eq_self, implies_true, forall_const, h0, h1, h9, h10, h5, hM, hne]
        rw [hst, hz]
        exact ⟨hi, wI (by omega) (by omega), AccL.first (by simp)⟩
      · obtain rfl : s = 29 := by simpa using hs
        simp -implicitDefEqProofs only [vqa, Nat.reduceEqDiff, Nat.reduceAdd, reduceIte, Nat.reduceLeDiff, Nat.reduceBEq, Nat.reduceLT, Nat.reduceSub, Int.reduceLT, Int.reduceLE, Int.reduceEq, Int.reduceToNat, Nat.reduceMul, eq_self, implies_true, forall_const, h0, h1, h9, h10, h5, hm, hM, hne]
        rw [hst]
        exact ⟨⟨by omega, by omega⟩, hi, wI (by omega) (by omega), AccL.push (by simp) hg⟩
    | false =>
      have he := hcof.2 hd
      have hst : (depL (depB t (six n)) (i + 1)).map ivc = (depL (depB t (six n)) i).map ivc := by simp [depL, hd]
      simp -implicitDefEqProofs only [vqa, Nat.reduceEqDiff, Nat.reduceAdd, reduceIte, Nat.reduceLeDiff, Nat.reduceBEq, Nat.reduceLT, Nat.reduceSub, Int.reduceLT, Int.reduceLE, Int.reduceEq, Int.reduceToNat, Nat.reduceMul, eq_self, implies_true, forall_const, h0, h1, h9, h10, hM, he]
      rw [hst]
      exact ⟨hi, wI (by omega) (by omega), hA⟩
  · rintro e m ⟨h0, h1, h9, h10, hA⟩
    unfold a15_0
    rcases hA with ⟨hz, h5⟩ | ⟨s, ver, g, hs, h5, hm, hg⟩
    · simp -implicitDefEqProofs only [vqa, Nat.reduceEqDiff, Nat.reduceAdd, reduceIte, Nat.reduceLeDiff, Nat.reduceBEq, Nat.reduceLT, Nat.reduceSub, Int.reduceLT, Int.reduceLE, Int.reduceEq, Int.reduceToNat, Nat.reduceMul, eq_self, implies_true, forall_const, h0, h1, h9, h10, hend, h5]
      have hl : (depL (depB t (six n)) (six n)).length = 0 := by rw [← List.length_map (f := ivc), hz]; rfl
      exact ⟨_, by rw [hl], fun i hi => absurd hi (by omega)⟩
    · simp -implicitDefEqProofs only [vqa, Nat.reduceEqDiff, Nat.reduceAdd, reduceIte, Nat.reduceLeDiff, Nat.reduceBEq, Nat.reduceLT, Nat.reduceSub, Int.reduceLT, Int.reduceLE, Int.reduceEq, Int.reduceToNat, Nat.reduceMul, eq_self, implies_true, forall_const, h0, h1, h9, h10, hend, h5, hm]
      rw [List.length_map]
      exact ⟨g, rfl, fun i hi => hg i (by rw [List.length_map]; exact hi)⟩
theorem xor_bit : ∀ k : Nat, k < 64 → ∀ i : Nat, i < 6 → bitop .xor .i64 (k : Int) ((2 ^ i : Nat) : Int) = ((k ^^^ 2 ^ i : Nat) : Int) ∧ k ^^^ 2 ^ i < 64 := by decide +kernel
theorem p16 (t n : Int) (ht : U64 t) : Pure PP 16 [.int .u64 t, .int .i64 n] fun r => ∃ f, r = .fs (depL (depB t (six n)) (six n)).length f ∧ ∀ i, i < (depL (depB t (six n)) (six n)).length → f i = ((depL (depB t (six n)) (six n)).map ivc).getD i .undef := by
  refine Fn.pure fmix f16 ?_
  unfold a16 r16
  simp -implicitDefEqProofs only [vqa, Nat.reduceEqDiff, Nat.reduceAdd, reduceIte, Nat.reduceLeDiff, Nat.reduceBEq, Nat.reduceLT, Nat.reduceSub, Int.reduceLT, Int.reduceLE, Int.reduceEq, Int.reduceToNat, Nat.reduceMul, eq_self, implies_true, forall_const]
  have hN : six n = (if (6 : Int) < n then 6 else n).toNat := rfl
  have h6 := six_le n
  generalize hM : (if (6 : Int) < n then 6 else n) = M at *
  have hmx : (if (0 : Int) > M then 0 else M) = ((six n : Nat) : Int) := by split <;> omega
  rw [hmx]
  refine vFor (six n) (fun i e m => e 0 = .int .u64 t ∧ e 1 = .int .i64 M ∧ e 11 = .int .i64 (six n : Nat) ∧ e 12 = .int .i64 i ∧ AccL [33] 3 1 ((depL (depB t (six n)) i).map ivc) (e 5) m) ?_ ?_ ?_
  · simp -implicitDefEqProofs only [vqa, Nat.reduceEqDiff, Nat.reduceAdd, reduceIte, Nat.reduceLeDiff, Nat.reduceBEq, Nat.reduceLT, Nat.reduceSub, Int.reduceLT, Int.reduceLE, Int.reduceEq, Int.reduceToNat, Nat.reduceMul, eq_self, implies_true, forall_const]
    exact .inl ⟨rfl, rfl⟩
  · rintro i e m hi hi' ⟨h0, h1, h11, h12, hA⟩
    have hMn : M = (six n : Nat) := by omega
    have hs := shl_one (show six n < 7 by omega)
    have hsi := shl_one (show i < 7 by omega)
    have h64 : 2 ^ six n ≤ 64 := by
      have := Nat.pow_le_pow_right (n := 2) (by decide) h6
      simpa using this
    rw [hMn] at h1
    unfold a16_0
    simp -implicitDefEqProofs only [vqa, Nat.reduceEqDiff, Nat.reduceAdd, reduceIte, Nat.reduceLeDiff, Nat.reduceBEq, Nat.reduceLT, Nat.reduceSub, Int.reduceLT, Int.reduceLE, Int.reduceEq, Int.reduceToNat, Nat.reduceMul, eq_self, implies_true, forall_const, h0, h1, h11, h12, hi', hs]
    refine ⟨by omega, ?_⟩
    refine vFor (2 ^ six n) (fun k e m => e 0 = .int .u64 t ∧ e 1 = .int .i64 (six n : Nat) ∧ e 6 = .int .i64 i ∧ e 11 = .int .i64 (six n : Nat) ∧ e 12 = .int .i64 i ∧ e 16 = .int .i64 ((2 ^ six n : Nat) : Int) ∧ e 17 = .int .i64 k ∧ (∀ j, j < k → bit t j = bit t (j ^^^ 2 ^ i)) ∧ AccL [33] 3 1 ((depL (depB t (six n)) i).map ivc) (e 5) m) ?_ ?_ ?_
    · simp -implicitDefEqProofs only [vqa, Nat.reduceEqDiff, Nat.reduceAdd, reduceIte, Nat.reduceLeDiff, Nat.reduceBEq, Nat.reduceLT, Nat.reduceSub, Int.reduceLT, Int.reduceLE, Int.reduceEq, Int.reduceToNat, Nat.reduceMul, eq_self, implies_true, forall_const, h0, h1, h11, h12]
      exact hA
    · rintro k e m hk hk' ⟨h0, h1, h6', h11, h12, h16, h17, hno, hA⟩
      obtain ⟨hx, hxl⟩ := xor_bit k (by omega) i (by omega)
      unfold a16_1
      simp -implicitDefEqProofs only [vqa, Nat.reduceEqDiff, Nat.reduceAdd, reduceIte, Nat.reduceLeDiff, Nat.reduceBEq, Nat.reduceLT, Nat.reduceSub, Int.reduceLT, Int.reduceLE, Int.reduceEq, Int.reduceToNat, Nat.reduceMul, eq_self, implies_true, forall_const, h0, h1, h6', h11, h12, h16, h17, hk']
      refine vAny [0, 1, 3, 4, 5, 6, 7, 2, 8, 9] 10 allL rfl rfl ?_
      simp -implicitDefEqProofs only [vqa, Nat.reduceEqDiff, Nat.reduceAdd, reduceIte, Nat.reduceLeDiff, Nat.reduceBEq, Nat.reduceLT, Nat.reduceSub, Int.reduceLT, Int.reduceLE, Int.reduceEq, Int.reduceToNat, Nat.reduceMul, eq_self, implies_true, forall_const, h0, h1, h6', h11, h12, h16, h17, hsi, hx]
      refine ⟨by omega, ?_⟩
      refine CallW.sc (p33 t k ht (by omega)) rfl ⟨trivial, trivial, trivial⟩ fun r hr => ⟨by subst hr; rfl, ?_⟩
      subst hr
      simp -implicitDefEqProofs only [vqa, Nat.reduceEqDiff, Nat.reduceAdd, reduceIte, Nat.reduceLeDiff, Nat.reduceBEq, Nat.reduceLT, Nat.reduceSub, Int.reduceLT, Int.reduceLE, Int.reduceEq, Int.reduceToNat, Nat.reduceMul, eq_self, implies_true, forall_const, h0, h1, h6', h11, h12, h16, h17, hsi, hx]
      refine CallW.sc (p33 t (k ^^^ 2 ^ i) ht hxl) rfl ⟨trivial, trivial, trivial⟩ fun r hr => ⟨by subst hr; rfl, ?_⟩
      subst hr
      simp -implicitDefEqProofs only [vqa, Nat.reduceEqDiff, Nat.reduceAdd, reduceIte, Nat.reduceLeDiff, Nat.reduceBEq, Nat.reduceLT, Nat.reduceSub, Int.reduceLT, Int.reduceLE, Int.reduceEq, Int.reduceToNat, Nat.reduceMul, eq_self, implies_true, forall_const, h0, h1, h6', h11, h12, h16, h17, hsi, hx]
      cases hd : (!(bit t k == bit t (k ^^^ 2 ^ i))) with
      | false =>
        simp -implicitDefEqProofs only [vqa, Nat.reduceEqDiff, Nat.reduceAdd, reduceIte, Nat.reduceLeDiff, Nat.reduceBEq, Nat.reduceLT, Nat.reduceSub, Int.reduceLT, Int.reduceLE, Int.reduceEq, Int.reduceToNat, Nat.reduceMul, eq_self, implies_true, forall_const, h0, h1, h6', h11, h12, h16, h17]
        refine ⟨hk, wI (by omega) (by omega), fun j hj => ?_, hA⟩
        by_cases e : j = k
        · subst e; simpa using hd
        · exact hno j (by omega)
      | true =>
        have hdep : depB t (six n) i = true := (depB_iff t (six n) i).2 ⟨k, hk, by simpa using hd⟩
        have hst : (depL (depB t (six n)) (i + 1)).map ivc = (depL (depB t (six n)) i).map ivc ++ [ivc i] := by simp [depL, hdep]
        have hle : ((depL (depB t (six n)) i).map ivc).length ≤ i := by rw [List.length_map]; exact depL_le _ _
        rcases hA with ⟨hz, h5⟩ | ⟨s, ver, g, hs, h5, hm, hg⟩
        · simp -implicitDefEqProofs only [vqa, Nat.reduceEqDiff, Nat.reduceAdd, reduceIte, Nat.reduceLeDiff, Nat.reduceBEq, Nat.reduceLT, Nat.reduceSub, Int.reduceLT, Int.reduceLE, Int.reduceEq, Int.reduceToNat, Nat.reduceMul, eq_self, implies_true, forall_const, h0, h1, h6', h11, h12, h16, h17, h5]
          rw [hst, hz]
          exact ⟨hi, hMn.symm, wI (by omega) (by omega), AccL.first (by simp)⟩
        · obtain rfl : s = 33 := by simpa using hs
          simp -implicitDefEqProofs only [vqa, Nat.reduceEqDiff, Nat.reduceAdd, reduceIte, Nat.reduceLeDiff, Nat.reduceBEq, Nat.reduceLT, Nat.reduceSub, Int.reduceLT, Int.reduceLE, Int.reduceEq, Int.reduceToNat, Nat.reduceMul, eq_self, implies_true, forall_const, h0, h1, h6', h11, h12, h16, h17, h5, hm]
          rw [hst]
          exact ⟨⟨by omega, by omega⟩, hi, hMn.symm, wI (by omega) (by omega), AccL.push (by simp) hg⟩
    · rintro e m ⟨h0, h1, h6', h11, h12, h16, h17, hno, hA⟩
      unfold a16_1
      simp -implicitDefEqProofs only [vqa, Nat.reduceEqDiff, Nat.reduceAdd, reduceIte, Nat.reduceLeDiff, Nat.reduceBEq, Nat.reduceLT, Nat.reduceSub, Int.reduceLT, Int.reduceLE, Int.reduceEq, Int.reduceToNat, Nat.reduceMul, eq_self, implies_true, forall_const, h0, h1, h6', h11, h12, h16, h17]
      have hdep : depB t (six n) i = false := by
        cases hd : depB t (six n) i with
        | false => rfl
        | true =>
          obtain ⟨k, hk, hne⟩ := (depB_iff t (six n) i).1 hd
          exact absurd (hno k hk) hne
      have hst : depL (depB t (six n)) (i + 1) = depL (depB t (six n)) i := by simp [depL, hdep]
      rw [hst]
      exact ⟨hi, hMn.symm, wI (by omega) (by omega), hA⟩
  · rintro e m ⟨h0, h1, h11, h12, hA⟩
    unfold a16_0
    rcases hA with ⟨hz, h5⟩ | ⟨s, ver, g, hs, h5, hm, hg⟩
    · simp -implicitDefEqProofs only [vqa, Nat.reduceEqDiff, Nat.reduceAdd, reduceIte, Nat.reduceLeDiff, Nat.reduceBEq, Nat.reduceLT, Nat.reduceSub, Int.reduceLT, Int.reduceLE, Int.reduceEq, Int.reduceToNat, Nat.reduceMul, eq_self, implies_true, forall_const, h0, h1, h11, h12, h5]
      have hl : (depL (depB t (six n)) (six n)).length = 0 := by rw [← List.length_map (f := ivc), hz]; rfl
      exact ⟨_, by rw [hl], fun i hi => absurd hi (by omega)⟩
    · simp -implicitDefEqProofs only [vqa, Nat.reduceEqDiff, Nat.reduceAdd, reduceIte, Nat.reduceLeDiff, Nat.reduceBEq, Nat.reduceLT, Nat.reduceSub, Int.reduceLT, Int.reduceLE, Int.reduceEq, Int.reduceToNat, Nat.reduceMul, eq_self, implies_true, forall_const, h0, h1, h11, h12, h5, hm]
      rw [List.length_map]
      exact ⟨g, rfl, fun i hi => hg i (by rw [List.length_map]; exact hi)⟩
end Go.Ab
