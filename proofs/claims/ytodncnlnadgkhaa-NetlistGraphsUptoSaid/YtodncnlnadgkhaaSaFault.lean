/- Walk: FormFault. -/
import Derived.Test.YtodncnlnadgkhaaSaOr
import Derived.Test.YtodncnlnadgkhaaSaForm
set_option linter.unusedSimpArgs false
set_option linter.unusedVariables false
namespace Go.Ab
open Go
def a23_0 : AC := (.seq (.ops [⟨(some 14), none, (.v (.bin .lss (.t 13) (.t 12)))⟩]) (.seq (.cond (.t 14) .skip (.exit 0)) (.seq (.block 1 (.seq (.ops [⟨(some 15), none, (.v (.mv (.t 13)))⟩, ⟨(some 4), none, (.v (.mv (.t 15)))⟩]) (.ops [⟨(some 16), none, (.v (.mv (.t 3)))⟩, ⟨(some 17), none, (.v (.mv (.t 4)))⟩, ⟨(some 18), none, (.v (.bin .shl (.c (.int .u64 1)) (.t 17)))⟩, ⟨(some 19), none, (.v (.bin .or (.t 16) (.t 18)))⟩, ⟨(some 3), none, (.v (.mv (.t 19)))⟩]))) (.ops [⟨(some 20), none, (.v (.bin .add (.t 13) (.c (.int .i64 1))))⟩, ⟨(some 13), none, (.v (.mv (.t 20)))⟩]))))
def a23 : AC := (.seq (.ops [⟨(some 2), none, (.v (.mv (.c (.int .u64 0))))⟩]) (.seq (.ops [⟨(some 3), none, (.v (.mv (.c (.int .u64 0))))⟩]) (.seq (.seq (.ops [⟨(some 5), none, (.v (.mv (.t 0)))⟩, ⟨(some 6), none, (.v (.bin .geq (.t 5) (.c (.int .i64 0))))⟩, ⟨(some 7), none, (.v (.mv (.t 6)))⟩, ⟨(some 8), (some (7, true)), (.v (.mv (.t 0)))⟩, ⟨(some 9), (some (7, true)), (.v (.bin .leq (.t 8) (.c (.int .i64 6))))⟩, ⟨(some 10), none, (.v (.pick (.t 7) (.t 9) (.c (.bool false))))⟩]) (.cond (.t 10) (.seq (.ops [⟨(some 11), none, (.v (.mv (.t 0)))⟩, ⟨(some 12), none, (.v (.bin .shl (.c (.int .i64 1)) (.t 11)))⟩, ⟨(some 13), none, (.v (.mv (.c (.int .i64 0))))⟩]) (.block 0 (.loop a23_0))) .skip)) (.seq (.ops [⟨(some 21), none, (.v (.mv (.t 3)))⟩, ⟨(some 2), none, (.v (.mv (.t 21)))⟩]) .ret))))
def r23 : List AI := [(.mv (.t 2))]
theorem f23 : Fn PP 23 1 a23 r23 := Fn.of (fn := Go.Proofs.Try.f23) (by kernel_rfl) (by kernel_rfl) (by kernel_rfl)
def a72 : AC := (.seq (.ops [⟨(some 3), none, (.v (.mv (.c (.bool false))))⟩]) (.seq (.ops [⟨(some 4), none, (.v (.mv (.t 0)))⟩, ⟨(some 5), none, (.v (.bin .lss (.t 4) (.c (.int .i64 0))))⟩, ⟨(some 6), none, (.v (.mv (.t 5)))⟩, ⟨(some 7), (some (6, false)), (.v (.mv (.t 0)))⟩, ⟨(some 8), (some (6, false)), (.v (.load 1 false (.t 1)))⟩, ⟨(some 9), (some (6, false)), (.v (.bin .geq (.t 7) (.t 8)))⟩, ⟨(some 10), none, (.v (.pick (.t 6) (.c (.bool true)) (.t 9)))⟩, ⟨(some 3), none, (.v (.mv (.t 10)))⟩]) .ret))
def r72 : List AI := [(.mv (.t 3))]
theorem f72 : Fn PP 72 2 a72 r72 := Fn.of (fn := Go.Proofs.Try.f72) (by kernel_rfl) (by kernel_rfl) (by kernel_rfl)
def a73 : AC := (.seq (.ops [⟨(some 4), none, (.v (.mv (.c (.bool false))))⟩]) (.seq (.ops [⟨(some 5), none, (.v (.mv (.t 0)))⟩, ⟨(some 6), none, (.v (.mv (.t 1)))⟩, ⟨(some 7), none, (.call (.c (.fn 128 [])) [(.t 5), (.t 6)])⟩, ⟨(some 8), none, (.v (.bin .geq (.t 7) (.c (.int .i64 0))))⟩, ⟨(some 4), none, (.v (.mv (.t 8)))⟩]) .ret))
def r73 : List AI := [(.mv (.t 4))]
theorem f73 : Fn PP 73 2 a73 r73 := Fn.of (fn := Go.Proofs.Try.f73) (by kernel_rfl) (by kernel_rfl) (by kernel_rfl)
def a128_0 : AC := (.seq (.ops [⟨(some 9), none, (.v (.bin .lss (.t 8) (.t 7)))⟩]) (.seq (.cond (.t 9) .skip (.exit 0)) (.seq (.block 1 (.seq (.ops [⟨(some 10), none, (.v (.mv (.t 8)))⟩, ⟨(some 5), none, (.v (.mv (.t 10)))⟩]) (.seq (.ops [⟨(some 11), none, (.v (.mv (.t 1)))⟩, ⟨(some 12), none, (.v (.mv (.t 0)))⟩, ⟨(some 13), none, (.v (.mv (.t 5)))⟩, ⟨(some 14), none, (.v (.idx 1 (.t 12) (.t 13)))⟩, ⟨(some 15), none, (.v (.load 1 false (.t 14)))⟩, ⟨(some 16), none, (.call (.t 11) [(.t 15)])⟩]) (.cond (.t 16) (.seq (.ops [⟨(some 17), none, (.v (.mv (.t 5)))⟩, ⟨(some 4), none, (.v (.mv (.t 17)))⟩]) .ret) .skip)))) (.ops [⟨(some 18), none, (.v (.bin .add (.t 8) (.c (.int .i64 1))))⟩, ⟨(some 8), none, (.v (.mv (.t 18)))⟩]))))
def a128 : AC := (.seq (.ops [⟨(some 4), none, (.v (.mv (.c (.int .i64 0))))⟩]) (.seq (.seq (.ops [⟨(some 6), none, (.v (.mv (.t 0)))⟩, ⟨(some 7), none, (.v (.len (.t 6)))⟩, ⟨(some 8), none, (.v (.mv (.c (.int .i64 0))))⟩]) (.block 0 (.loop a128_0))) (.seq (.ops [⟨(some 4), none, (.v (.mv (.c (.int .i64 (-1)))))⟩]) .ret)))
def r128 : List AI := [(.mv (.t 4))]
theorem f128 : Fn PP 128 2 a128 r128 := Fn.of (fn := Go.Proofs.Try.f128) (by kernel_rfl) (by kernel_rfl) (by kernel_rfl)

theorem p72 (k L : Int) : Pure PP 72 [.int .i64 k, .fp [.int .i64 L]] fun r => r = .bool (decide (badNet L k ≠ 0)) := by
  refine Fn.pure fmix f72 ?_
  unfold a72 r72
  simp -implicitDefEqProofs only [vqa, Nat.reduceEqDiff, Nat.reduceAdd, reduceIte, Nat.reduceLeDiff, Nat.reduceBEq, Nat.reduceLT, Nat.reduceSub, Int.reduceLT, Int.reduceLE, Int.reduceEq, Int.reduceToNat, Nat.reduceMul, eq_self, implies_true, forall_const]
  have key : decide (badNet L k ≠ 0) = decide (k < 0 ∨ L ≤ k) := by unfold badNet; by_cases h : k < 0 ∨ L ≤ k <;> simp [h]
  rw [key]
  refine ⟨fun h => ?_, fun h => ?_⟩
  · simp [h]
  · simp [h]

/-- Is one of the first n of x out of bounds? -/
theorem p128 (n : Nat) (x : Nat → Int) (f : Nat → AV) (L : Int) (hf : ∀ i, i < n → f i = .int .i64 (x i)) (hn : n ≤ 1048576) : Pure PP 128 [.fs n f, .fn 72 [.fp [.int .i64 L]]] fun r => ∃ k : Int, r = .int .i64 k ∧ (0 ≤ k ↔ scan (fun i => badNet L (x i)) n ≠ 0) := by
  refine Fn.pure fmix f128 ?_
  unfold a128 r128
  simp -implicitDefEqProofs only [vqa, Nat.reduceEqDiff, Nat.reduceAdd, reduceIte, Nat.reduceLeDiff, Nat.reduceBEq, Nat.reduceLT, Nat.reduceSub, Int.reduceLT, Int.reduceLE, Int.reduceEq, Int.reduceToNat, Nat.reduceMul, eq_self, implies_true, forall_const]
  refine vFor n (fun i e m => e 0 = .fs n f ∧ e 1 = .fn 72 [.fp [.int .i64 L]] ∧ e 6 = .fs n f ∧ e 7 = .int .i64 n ∧ e 8 = .int .i64 i ∧ scan (fun i => badNet L (x i)) i = 0) ?_ ?_ ?_
  · simp -implicitDefEqProofs only [vqa, Nat.reduceEqDiff, Nat.reduceAdd, reduceIte, Nat.reduceLeDiff, Nat.reduceBEq, Nat.reduceLT, Nat.reduceSub, Int.reduceLT, Int.reduceLE, Int.reduceEq, Int.reduceToNat, Nat.reduceMul, eq_self, implies_true, forall_const]
    rfl
  · rintro i e m hi hi' ⟨h0, h1, h6, h7, h8, hs⟩
    unfold a128_0
    simp -implicitDefEqProofs only [vqa, Nat.reduceEqDiff, Nat.reduceAdd, reduceIte, Nat.reduceLeDiff, Nat.reduceBEq, Nat.reduceLT, Nat.reduceSub, Int.reduceLT, Int.reduceLE, Int.reduceEq, Int.reduceToNat, Nat.reduceMul, eq_self, implies_true, forall_const, h0, h1, h6, h7, h8, hi', hf i hi]
    refine ⟨by omega, ?_⟩
    refine CallW.sc (p72 (x i) L) rfl ⟨trivial, trivial, trivial⟩ fun r hr => ⟨by subst hr; rfl, ?_⟩
    subst hr
    simp -implicitDefEqProofs only [vqa, Nat.reduceEqDiff, Nat.reduceAdd, reduceIte, Nat.reduceLeDiff, Nat.reduceBEq, Nat.reduceLT, Nat.reduceSub, Int.reduceLT, Int.reduceLE, Int.reduceEq, Int.reduceToNat, Nat.reduceMul, eq_self, implies_true, forall_const, h0, h1, h6, h7, h8]
    refine ⟨fun hb => ⟨_, rfl, fun _ => ?_, fun _ => by omega⟩, fun hb => ⟨hi, wI (by omega) (by omega), scan_step hs (Classical.not_not.1 hb)⟩⟩
    rw [scan_stop hs rfl hb n hi]; exact hb
  · rintro e m ⟨h0, h1, h6, h7, h8, hs⟩
    unfold a128_0
    simp -implicitDefEqProofs only [vqa, Nat.reduceEqDiff, Nat.reduceAdd, reduceIte, Nat.reduceLeDiff, Nat.reduceBEq, Nat.reduceLT, Nat.reduceSub, Int.reduceLT, Int.reduceLE, Int.reduceEq, Int.reduceToNat, Nat.reduceMul, eq_self, implies_true, forall_const, h0, h1, h6, h7, h8]
    exact ⟨_, rfl, fun h => absurd h (by decide), fun h => absurd hs h⟩

theorem p73 (n : Nat) (x : Nat → Int) (f : Nat → AV) (L : Int) (hf : ∀ i, i < n → f i = .int .i64 (x i)) (hn : n ≤ 1048576) : Pure PP 73 [.fs n f, .fn 72 [.fp [.int .i64 L]]] fun r => r = .bool (decide (scan (fun i => badNet L (x i)) n ≠ 0)) := by
  refine Fn.pure fmix f73 ?_
  unfold a73 r73
  simp -implicitDefEqProofs only [vqa, Nat.reduceEqDiff, Nat.reduceAdd, reduceIte, Nat.reduceLeDiff, Nat.reduceBEq, Nat.reduceLT, Nat.reduceSub, Int.reduceLT, Int.reduceLE, Int.reduceEq, Int.reduceToNat, Nat.reduceMul, eq_self, implies_true, forall_const]
  refine CallW.sc (p128 n x f L hf hn) rfl ⟨trivial, ⟨trivial, trivial⟩, trivial⟩ fun r ⟨k, hr, hk⟩ => ⟨by subst hr; rfl, ?_⟩
  subst hr
  simp -implicitDefEqProofs only [vqa, Nat.reduceEqDiff, Nat.reduceAdd, reduceIte, Nat.reduceLeDiff, Nat.reduceBEq, Nat.reduceLT, Nat.reduceSub, Int.reduceLT, Int.reduceLE, Int.reduceEq, Int.reduceToNat, Nat.reduceMul, eq_self, implies_true, forall_const]
  by_cases h : 0 ≤ k
  · simp [h, hk.1 h]
  · have : ¬ (scan (fun i => badNet L (x i)) n ≠ 0) := fun h2 => h (hk.2 h2)
    simp [h, this]

/-- 'cmp.Or' of two. -/
def roomL : Nat → Int
  | 0 => 0
  | i + 1 => bitop .or .u64 (roomL i) (IntKind.u64.wrap (1 * 2 ^ min i 64))
theorem p23 (n : Int) : Pure PP 23 [.int .i64 n] fun r => r = .int .u64 (maskF n) := by
  refine Fn.pure fmix f23 ?_
  unfold a23 r23
  simp -implicitDefEqProofs only [vqa, Nat.reduceEqDiff, Nat.reduceAdd, reduceIte, Nat.reduceLeDiff, Nat.reduceBEq, Nat.reduceLT, Nat.reduceSub, Int.reduceLT, Int.reduceLE, Int.reduceEq, Int.reduceToNat, Nat.reduceMul, eq_self, implies_true, forall_const]
  refine ⟨fun h0 => ⟨fun h1 => ⟨by omega, ?_⟩, fun h1 => ?_⟩, fun h0 => ?_⟩
  · obtain ⟨k, rfl⟩ : ∃ k : Nat, n = k := ⟨n.toNat, by omega⟩
    have h2n : IntKind.i64.wrap (1 * 2 ^ min ((k : Int)).toNat 64) = ((2 ^ k : Nat) : Int) ∧ roomL (2 ^ k) = maskF k ∧ 2 ^ k ≤ 64 := by
      have : k = 0 ∨ k = 1 ∨ k = 2 ∨ k = 3 ∨ k = 4 ∨ k = 5 ∨ k = 6 := by omega
      rcases this with h | h | h | h | h | h | h <;> subst h <;> decide +kernel
    obtain ⟨e1, e2, e3⟩ := h2n
    rw [e1]
    refine vFor (2 ^ k) (fun i e m => e 12 = .int .i64 ((2 ^ k : Nat) : Int) ∧ e 13 = .int .i64 i ∧ e 3 = .int .u64 (roomL i)) ?_ ?_ ?_
    · simp -implicitDefEqProofs only [vqa, Nat.reduceEqDiff, Nat.reduceAdd, reduceIte, Nat.reduceLeDiff, Nat.reduceBEq, Nat.reduceLT, Nat.reduceSub, Int.reduceLT, Int.reduceLE, Int.reduceEq, Int.reduceToNat, Nat.reduceMul, eq_self, implies_true, forall_const]
      rfl
    · rintro i e m hi hi' ⟨h12, h13, h3⟩
      unfold a23_0
      simp -implicitDefEqProofs only [vqa, Nat.reduceEqDiff, Nat.reduceAdd, reduceIte, Nat.reduceLeDiff, Nat.reduceBEq, Nat.reduceLT, Nat.reduceSub, Int.reduceLT, Int.reduceLE, Int.reduceEq, Int.reduceToNat, Nat.reduceMul, eq_self, implies_true, forall_const, h12, h13, h3, hi']
      exact ⟨by omega, hi, wI (by omega) (by omega), rfl⟩
    · rintro e m ⟨h12, h13, h3⟩
      unfold a23_0
      simp -implicitDefEqProofs only [vqa, Nat.reduceEqDiff, Nat.reduceAdd, reduceIte, Nat.reduceLeDiff, Nat.reduceBEq, Nat.reduceLT, Nat.reduceSub, Int.reduceLT, Int.reduceLE, Int.reduceEq, Int.reduceToNat, Nat.reduceMul, eq_self, implies_true, forall_const, h12, h13, h3]
      exact e2
  · unfold maskF; rw [if_neg (by omega), if_pos (by omega)]
  · unfold maskF; rw [if_pos (by omega)]
def a19_0 : AC := (.seq (.ops [⟨(some 50), none, (.v (.bin .lss (.t 49) (.t 48)))⟩]) (.seq (.cond (.t 50) .skip (.exit 0)) (.seq (.block 1 (.seq (.ops [⟨(some 51), none, (.v (.idx 5 (.t 47) (.t 49)))⟩, ⟨(some 52), none, (.v (.load 5 true (.t 51)))⟩, ⟨(some 5), none, (.e (.alloc 5 [(.str ⟨#[]⟩), (.int .i64 0), (.int .i64 0), (.int .i64 0), (.bool false)]))⟩, ⟨none, none, (.e (.store 5 (.t 5) (.t 52)))⟩]) (.ops [⟨(some 53), none, (.v (.mv (.t 3)))⟩, ⟨(some 54), none, (.v (.fld 0 (.t 5)))⟩, ⟨(some 55), none, (.v (.load 1 false (.t 54)))⟩, ⟨(some 56), none, (.e (.lit 56 9 1 1 [(.str ⟨#[]⟩)] [(0, (.t 55))]))⟩, ⟨(some 57), none, (.e (.app 57 9 1 16 (.t 53) (.t 56)))⟩, ⟨(some 3), none, (.v (.mv (.t 57)))⟩]))) (.ops [⟨(some 58), none, (.v (.bin .add (.t 49) (.c (.int .i64 1))))⟩, ⟨(some 49), none, (.v (.mv (.t 58)))⟩]))))
def a19_1 : AC := (.seq (.ops [⟨(some 77), none, (.v (.bin .lss (.t 76) (.t 75)))⟩]) (.seq (.cond (.t 77) .skip (.exit 2)) (.seq (.block 3 (.seq (.ops [⟨(some 78), none, (.v (.idx 3 (.t 74) (.t 76)))⟩, ⟨(some 79), none, (.v (.load 3 true (.t 78)))⟩, ⟨(some 10), none, (.e (.alloc 10 [(.int .i64 0), (.int .u64 0), .cap0]))⟩, ⟨none, none, (.e (.store 3 (.t 10) (.t 79)))⟩]) (.seq (.block 4 (.seq (.ops [⟨(some 81), none, (.v (.fld 2 (.t 10)))⟩, ⟨(some 82), none, (.v (.load 1 false (.t 81)))⟩, ⟨(some 83), none, (.v (.len (.t 82)))⟩, ⟨(some 84), none, (.v (.bin .gtr (.t 83) (.c (.int .i64 6))))⟩, ⟨(some 80), none, (.v (.mv (.t 84)))⟩]) (.cond (.t 80) (.seq (.ops [⟨(some 2), none, (.v (.mv (.c (.int .i64 3))))⟩]) .ret) (.seq (.any [⟨(some 86), none, (.v (.fld 1 (.t 10)))⟩, ⟨(some 87), none, (.v (.load 1 false (.t 86)))⟩, ⟨(some 88), none, (.v (.fld 2 (.t 10)))⟩, ⟨(some 89), none, (.v (.load 1 false (.t 88)))⟩, ⟨(some 90), none, (.v (.len (.t 89)))⟩, ⟨(some 91), none, (.call (.c (.fn 23 [])) [(.t 90)])⟩, ⟨(some 92), none, (.v (.bin .or (.t 87) (.t 91)))⟩, ⟨(some 93), none, (.v (.fld 2 (.t 10)))⟩, ⟨(some 94), none, (.v (.load 1 false (.t 93)))⟩, ⟨(some 95), none, (.v (.len (.t 94)))⟩, ⟨(some 96), none, (.call (.c (.fn 23 [])) [(.t 95)])⟩, ⟨(some 97), none, (.v (.bin .neq (.t 92) (.t 96)))⟩, ⟨(some 85), none, (.v (.mv (.t 97)))⟩] [[], [0], [], [2], [3], [4], [1, 5], [], [7], [8], [9, 5], [6, 10], [11, 10]]) (.cond (.t 85) (.seq (.ops [⟨(some 2), none, (.v (.mv (.c (.int .i64 4))))⟩]) .ret) (.seq (.ops [⟨(some 99), none, (.v (.fld 2 (.t 10)))⟩, ⟨(some 100), none, (.v (.load 1 false (.t 99)))⟩, ⟨(some 101), none, (.v (.mv (.t 8)))⟩, ⟨(some 102), none, (.call (.c (.fn 73 [])) [(.t 100), (.t 101)])⟩, ⟨(some 98), none, (.v (.mv (.t 102)))⟩]) (.cond (.t 98) (.seq (.ops [⟨(some 2), none, (.v (.mv (.c (.int .i64 2))))⟩]) .ret) .skip))))))) (.ops [⟨(some 103), none, (.v (.load 1 false (.t 7)))⟩, ⟨(some 104), none, (.v (.bin .add (.t 103) (.c (.int .i64 1))))⟩, ⟨none, none, (.e (.store 1 (.t 7) (.t 104)))⟩])))) (.ops [⟨(some 105), none, (.v (.bin .add (.t 76) (.c (.int .i64 1))))⟩, ⟨(some 76), none, (.v (.mv (.t 105)))⟩]))))
def a19_2 : AC := (.seq (.ops [⟨(some 110), none, (.v (.bin .lss (.t 109) (.t 108)))⟩]) (.seq (.cond (.t 110) .skip (.exit 5)) (.seq (.block 6 (.seq (.ops [⟨(some 111), none, (.v (.idx 5 (.t 107) (.t 109)))⟩, ⟨(some 112), none, (.v (.load 5 true (.t 111)))⟩, ⟨(some 12), none, (.e (.alloc 12 [(.str ⟨#[]⟩), (.int .i64 0), (.int .i64 0), (.int .i64 0), (.bool false)]))⟩, ⟨none, none, (.e (.store 5 (.t 12) (.t 112)))⟩]) (.seq (.ops [⟨(some 113), none, (.v (.mv (.t 8)))⟩, ⟨(some 114), none, (.v (.fld 2 (.t 12)))⟩, ⟨(some 115), none, (.v (.load 1 false (.t 114)))⟩, ⟨(some 116), none, (.call (.t 113) [(.t 115)])⟩, ⟨(some 117), none, (.v (.mv (.t 116)))⟩, ⟨(some 118), (some (117, false)), (.v (.mv (.t 8)))⟩, ⟨(some 119), (some (117, false)), (.v (.fld 3 (.t 12)))⟩, ⟨(some 120), (some (117, false)), (.v (.load 1 false (.t 119)))⟩, ⟨(some 121), (some (117, false)), (.call (.t 118) [(.t 120)])⟩, ⟨(some 122), none, (.v (.pick (.t 117) (.c (.bool true)) (.t 121)))⟩]) (.cond (.t 122) (.seq (.ops [⟨(some 2), none, (.v (.mv (.c (.int .i64 2))))⟩]) .ret) .skip)))) (.ops [⟨(some 123), none, (.v (.bin .add (.t 109) (.c (.int .i64 1))))⟩, ⟨(some 109), none, (.v (.mv (.t 123)))⟩]))))
def a19 : AC := (.seq (.ops [⟨(some 1), none, (.e (.box 1 0 (.t 0)))⟩, ⟨(some 2), none, (.v (.mv (.c (.int .i64 0))))⟩]) (.seq (.seq (.ops [⟨(some 13), none, (.v (.fld 0 (.t 1)))⟩, ⟨(some 14), none, (.v (.load 1 false (.t 13)))⟩, ⟨(some 15), none, (.v (.len (.t 14)))⟩, ⟨(some 16), none, (.v (.bin .gtr (.t 15) (.c (.int .i64 128))))⟩, ⟨(some 17), none, (.v (.mv (.t 16)))⟩, ⟨(some 18), (some (17, false)), (.v (.fld 1 (.t 1)))⟩, ⟨(some 19), (some (17, false)), (.v (.load 1 false (.t 18)))⟩, ⟨(some 20), (some (17, false)), (.v (.len (.t 19)))⟩, ⟨(some 21), (some (17, false)), (.v (.bin .gtr (.t 20) (.c (.int .i64 128))))⟩, ⟨(some 22), none, (.v (.pick (.t 17) (.c (.bool true)) (.t 21)))⟩, ⟨(some 23), none, (.v (.mv (.t 22)))⟩, ⟨(some 24), (some (23, false)), (.v (.fld 2 (.t 1)))⟩, ⟨(some 25), (some (23, false)), (.v (.load 1 false (.t 24)))⟩, ⟨(some 26), (some (23, false)), (.v (.len (.t 25)))⟩, ⟨(some 27), (some (23, false)), (.v (.bin .gtr (.t 26) (.c (.int .i64 288))))⟩, ⟨(some 28), none, (.v (.pick (.t 23) (.c (.bool true)) (.t 27)))⟩, ⟨(some 29), none, (.v (.mv (.t 28)))⟩, ⟨(some 30), (some (29, false)), (.v (.fld 3 (.t 1)))⟩, ⟨(some 31), (some (29, false)), (.v (.load 1 false (.t 30)))⟩, ⟨(some 32), (some (29, false)), (.v (.len (.t 31)))⟩, ⟨(some 33), (some (29, false)), (.v (.bin .gtr (.t 32) (.c (.int .i64 1200))))⟩, ⟨(some 34), none, (.v (.pick (.t 29) (.c (.bool true)) (.t 33)))⟩]) (.cond (.t 34) (.seq (.ops [⟨(some 2), none, (.v (.mv (.c (.int .i64 3))))⟩]) .ret) .skip)) (.seq (.seq (.ops [⟨(some 35), none, (.v (.fld 4 (.t 1)))⟩, ⟨(some 36), none, (.v (.load 1 false (.t 35)))⟩, ⟨(some 37), none, (.v (.len (.t 36)))⟩, ⟨(some 38), none, (.v (.fld 1 (.t 1)))⟩, ⟨(some 39), none, (.v (.load 1 false (.t 38)))⟩, ⟨(some 40), none, (.v (.len (.t 39)))⟩, ⟨(some 41), none, (.v (.bin .neq (.t 37) (.t 40)))⟩]) (.cond (.t 41) (.seq (.ops [⟨(some 2), none, (.v (.mv (.c (.int .i64 4))))⟩]) .ret) .skip)) (.seq (.ops [⟨(some 42), none, (.e (.lit 42 9 1 0 [(.str ⟨#[]⟩)] []))⟩, ⟨(some 43), none, (.v (.fld 0 (.t 1)))⟩, ⟨(some 44), none, (.v (.load 1 false (.t 43)))⟩, ⟨(some 45), none, (.e (.app 45 9 1 16 (.t 42) (.t 44)))⟩, ⟨(some 3), none, (.v (.mv (.t 45)))⟩]) (.seq (.seq (.ops [⟨(some 46), none, (.v (.fld 2 (.t 1)))⟩, ⟨(some 47), none, (.v (.load 1 false (.t 46)))⟩, ⟨(some 48), none, (.v (.len (.t 47)))⟩, ⟨(some 49), none, (.v (.mv (.c (.int .i64 0))))⟩]) (.block 0 (.loop a19_0))) (.seq (.seq (.any [⟨(some 59), none, (.v (.mv (.t 3)))⟩, ⟨(some 60), none, (.call (.c (.fn 71 [])) [(.t 59)])⟩, ⟨(some 61), none, (.v (.fld 1 (.t 1)))⟩, ⟨(some 62), none, (.v (.load 1 false (.t 61)))⟩, ⟨(some 63), none, (.call (.c (.fn 71 [])) [(.t 62)])⟩, ⟨(some 64), none, (.e (.lit 64 36 1 2 [(.int .i64 0)] [(0, (.t 60)), (1, (.t 63))]))⟩, ⟨(some 65), none, (.call (.c (.fn 70 [])) [(.t 64)])⟩, ⟨(some 6), none, (.v (.mv (.t 65)))⟩] [[], [0], [], [2], [3, 1], [1, 4], [5, 4], [6, 6, 0, 1, 2, 3, 4, 5, 6]]) (.seq (.ops [⟨(some 66), none, (.v (.mv (.t 6)))⟩, ⟨(some 67), none, (.v (.bin .neq (.t 66) (.c (.int .i64 0))))⟩]) (.cond (.t 67) (.seq (.ops [⟨(some 68), none, (.v (.mv (.t 6)))⟩, ⟨(some 2), none, (.v (.mv (.t 68)))⟩]) .ret) .skip))) (.seq (.ops [⟨(some 69), none, (.v (.mv (.t 3)))⟩, ⟨(some 70), none, (.v (.len (.t 69)))⟩, ⟨(some 71), none, (.v (.bin .add (.c (.int .i64 2)) (.t 70)))⟩, ⟨(some 7), none, (.e (.alloc 7 [(.int .i64 0)]))⟩, ⟨none, none, (.e (.store 1 (.t 7) (.t 71)))⟩]) (.seq (.ops [⟨(some 72), none, (.v (.mkfn 72 [(.t 7)]))⟩, ⟨(some 8), none, (.v (.mv (.t 72)))⟩]) (.seq (.seq (.ops [⟨(some 73), none, (.v (.fld 3 (.t 1)))⟩, ⟨(some 74), none, (.v (.load 1 false (.t 73)))⟩, ⟨(some 75), none, (.v (.len (.t 74)))⟩, ⟨(some 76), none, (.v (.mv (.c (.int .i64 0))))⟩]) (.block 2 (.loop a19_1))) (.seq (.seq (.ops [⟨(some 106), none, (.v (.fld 2 (.t 1)))⟩, ⟨(some 107), none, (.v (.load 1 false (.t 106)))⟩, ⟨(some 108), none, (.v (.len (.t 107)))⟩, ⟨(some 109), none, (.v (.mv (.c (.int .i64 0))))⟩]) (.block 5 (.loop a19_2))) (.seq (.seq (.ops [⟨(some 124), none, (.v (.fld 4 (.t 1)))⟩, ⟨(some 125), none, (.v (.load 1 false (.t 124)))⟩, ⟨(some 126), none, (.v (.mv (.t 8)))⟩, ⟨(some 127), none, (.call (.c (.fn 73 [])) [(.t 125), (.t 126)])⟩]) (.cond (.t 127) (.seq (.ops [⟨(some 2), none, (.v (.mv (.c (.int .i64 2))))⟩]) .ret) .skip)) (.seq (.ops [⟨(some 2), none, (.v (.mv (.c (.int .i64 0))))⟩]) .ret))))))))))))
def r19 : List AI := [(.mv (.t 2))]
theorem f19 : Fn PP 19 1 a19 r19 := Fn.of (fn := Go.Proofs.Try.f19) (by kernel_rfl) (by kernel_rfl) (by kernel_rfl)
theorem scan_bad {L : Int} {x : Nat → Int} {n : Nat} (h : scan (fun k => badNet L (x k)) n ≠ 0) : scan (fun k => badNet L (x k)) n = 2 := by
  have hall : ∀ n, scan (fun k => badNet L (x k)) n = 0 ∨ scan (fun k => badNet L (x k)) n = 2 := fun n => by
    induction n with
    | zero => exact .inl rfl
    | succ n ih =>
      simp only [scan]
      rcases ih with h | h
      · rw [if_pos h]; unfold badNet; split
        · exact .inr rfl
        · exact .inl rfl
      · rw [if_neg (by omega)]; exact .inr h
  exact (hall n).resolve_left h
/-- The names gathered so far. -/
def Gath2 (N : Net) (n : Nat) (v : AV) (m : Mem) : Prop := (n = 0 ∧ v = .cap0) ∨ (∃ ver g, v = .sl 42 ver n ∧ m 42 = .row ver 9 1 n g ∧ ∀ j, j < n → g j = .str (N.names j)) ∨ ∃ ver g, v = .sl 57 ver n ∧ m 57 = .row ver 9 1 n g ∧ ∀ j, j < n → g j = .str (N.names j)

theorem Gath2.call {N : Net} {n : Nat} {v : AV} {m : Mem} {K : AV → Mem → Prop} (h : Gath2 N n v m) (hx : ∀ i, i < n → (N.names i).size ≤ 1048576) (hn : n ≤ 1048576) (hk : K (.int .i64 (namesF N.names n)) m) : CallW PP 71 [v] m K := by
  rcases h with ⟨rfl, rfl⟩ | ⟨ver, g, rfl, hm, hg⟩ | ⟨ver, g, rfl, hm, hg⟩
  · exact CallW.sc (p71 0 N.names (fun _ => .undef) (fun i hi => absurd hi (Nat.not_lt_zero _)) (fun i hi => absurd hi (Nat.not_lt_zero _)) (by omega)) rfl ⟨trivial, trivial⟩ fun r hr => ⟨by subst hr; rfl, by subst hr; exact hk⟩
  · refine CallW.sc (p71 n N.names g hg hx hn) ?_ ?_ fun r hr => ⟨by subst hr; rfl, by subst hr; exact hk⟩
    · simp only [rsC, rs2, rs1, rs0, hm]
    · simp only [rsC, rs2, rs1, rs0, hm, and_self]
  · refine CallW.sc (p71 n N.names g hg hx hn) ?_ ?_ fun r hr => ⟨by subst hr; rfl, by subst hr; exact hk⟩
    · simp only [rsC, rs2, rs1, rs0, hm]
    · simp only [rsC, rs2, rs1, rs0, hm, and_self]

theorem p19 {N : Net} {cs : List AV} (hN : NetC cs N) (ok : N.Ok) : Pure PP 19 [.agg cs] fun r => r = .int .i64 (formF N) := by
  obtain ⟨f0, f1, f2, f3, f4, rfl, g0, g1, g2, g3, g4⟩ := hN
  have hni := ok.ni; have hnf := ok.nf; have hno := ok.no; have hng := ok.ng; have hnk := ok.nk
  refine Fn.pure fmix f19 ?_
  unfold a19 r19
  simp -implicitDefEqProofs only [vqa, Nat.reduceEqDiff, Nat.reduceAdd, reduceIte, Nat.reduceLeDiff, Nat.reduceBEq, Nat.reduceLT, Nat.reduceSub, Int.reduceLT, Int.reduceLE, Int.reduceEq, Int.reduceToNat, Nat.reduceMul, eq_self, implies_true, forall_const]
  have big : 128 < N.ni ∨ 128 < N.no ∨ 288 < N.nf ∨ 1200 < N.ng → (3 : Int) = formF N := fun h => by unfold formF; rw [if_pos h]
  refine ⟨fun b1 => ⟨fun b2 => ⟨fun b3 => ⟨fun b4 => big (by omega), fun b4 => ⟨fun b5 => ?_, fun b5 => ?_⟩⟩, fun b3 => big (by omega)⟩, fun b2 => big (by omega)⟩, fun b1 => big (by omega)⟩
  · unfold formF; rw [if_neg (by omega), if_pos (by omega)]
  have hnm : ∀ j, j < N.ni → f0 j = .str (N.names j) := fun j hj => by rw [g0 j hj]; unfold Net.names; rw [if_pos hj]
  refine ⟨⟨fun i hi => by rw [hnm i hi]; exact ⟨rfl, rfl⟩, by omega, by omega⟩, ?_⟩
  refine vFor N.nf (fun i e m => e 1 = .ptr 1 ((mem0 1).ver + 1) 0 ∧ e 47 = .fs N.nf f2 ∧ e 48 = .int .i64 N.nf ∧ e 49 = .int .i64 i ∧ m 1 = .var ((mem0 1).ver + 1) [.fs N.ni f0, .fs N.no f1, .fs N.nf f2, .fs N.ng f3, .fs N.nk f4] ∧ Gath2 N (N.ni + i) (e 3) m) ?_ ?_ ?_
  · simp -implicitDefEqProofs only [vqa, Nat.reduceEqDiff, Nat.reduceAdd, reduceIte, Nat.reduceLeDiff, Nat.reduceBEq, Nat.reduceLT, Nat.reduceSub, Int.reduceLT, Int.reduceLE, Int.reduceEq, Int.reduceToNat, Nat.reduceMul, eq_self, implies_true, forall_const]
    exact .inr (.inl ⟨_, _, rfl, set_same _ _ _, fun j hj => hnm j hj⟩)
  · rintro i e m hi hi' ⟨h1, h46, h47, h48, hm, hG⟩
    have hnm : N.names (N.ni + i) = (N.flop i).name := by unfold Net.names; rw [if_neg (by omega)]; congr 2; omega
    unfold a19_0
    rcases hG with ⟨hz, h3⟩ | ⟨ver, g, h3, hm3, hg⟩ | ⟨ver, g, h3, hm3, hg⟩
    · simp -implicitDefEqProofs only [vqa, Nat.reduceEqDiff, Nat.reduceAdd, reduceIte, Nat.reduceLeDiff, Nat.reduceBEq, Nat.reduceLT, Nat.reduceSub, Int.reduceLT, Int.reduceLE, Int.reduceEq, Int.reduceToNat, Nat.reduceMul, eq_self, implies_true, forall_const, h1, h46, h47, h48, hm, h3, hi', g2 i hi, FlopV.av]
      have h0 : N.ni + (i + 1) = 1 := by omega
      rw [h0]
      refine ⟨by omega, hi, wI (by omega) (by omega), .inr (.inr ⟨_, _, rfl, set_same _ _ _, fun j hj => ?_⟩)⟩
      obtain rfl : j = 0 := by omega
      have : N.names 0 = (N.flop i).name := by rw [← hnm]; congr 1; exact hz.symm
      rw [this]; rfl
    · simp -implicitDefEqProofs only [vqa, Nat.reduceEqDiff, Nat.reduceAdd, reduceIte, Nat.reduceLeDiff, Nat.reduceBEq, Nat.reduceLT, Nat.reduceSub, Int.reduceLT, Int.reduceLE, Int.reduceEq, Int.reduceToNat, Nat.reduceMul, eq_self, implies_true, forall_const, h1, h46, h47, h48, hm, h3, hm3, hi', g2 i hi, FlopV.av]
      exact ⟨by omega, ⟨by omega, by omega⟩, hi, wI (by omega) (by omega), .inr (.inl ⟨_, _, rfl, set_same _ _ _, gath_row hg hnm⟩)⟩
    · simp -implicitDefEqProofs only [vqa, Nat.reduceEqDiff, Nat.reduceAdd, reduceIte, Nat.reduceLeDiff, Nat.reduceBEq, Nat.reduceLT, Nat.reduceSub, Int.reduceLT, Int.reduceLE, Int.reduceEq, Int.reduceToNat, Nat.reduceMul, eq_self, implies_true, forall_const, h1, h46, h47, h48, hm, h3, hm3, hi', g2 i hi, FlopV.av]
      exact ⟨by omega, ⟨by omega, by omega⟩, hi, wI (by omega) (by omega), .inr (.inr ⟨_, _, rfl, set_same _ _ _, gath_row hg hnm⟩)⟩
  · rintro e m ⟨h1, h46, h47, h48, hm, hG⟩
    unfold a19_0
    simp -implicitDefEqProofs only [vqa, Nat.reduceEqDiff, Nat.reduceAdd, reduceIte, Nat.reduceLeDiff, Nat.reduceBEq, Nat.reduceLT, Nat.reduceSub, Int.reduceLT, Int.reduceLE, Int.reduceEq, Int.reduceToNat, Nat.reduceMul, eq_self, implies_true, forall_const, h1, h46, h47, h48, hm]
    refine vAny [0, 2, 3, 1, 4, 5, 6, 7] 8 (oneL 1) rfl rfl ?_
    simp -implicitDefEqProofs only [vqa, Nat.reduceEqDiff, Nat.reduceAdd, reduceIte, Nat.reduceLeDiff, Nat.reduceBEq, Nat.reduceLT, Nat.reduceSub, Int.reduceLT, Int.reduceLE, Int.reduceEq, Int.reduceToNat, Nat.reduceMul, eq_self, implies_true, forall_const, h1, h46, h47, h48, hm]
    have hnames : ∀ i, i < N.ni + N.nf → (N.names i).size ≤ 1048576 := fun i hi => by
      unfold Net.names
      split
      · exact ok.inn i (by omega)
      · exact (ok.flop _ (by omega)).1
    refine hG.call hnames (by omega) ?_
    simp -implicitDefEqProofs only [vqa, Nat.reduceEqDiff, Nat.reduceAdd, reduceIte, Nat.reduceLeDiff, Nat.reduceBEq, Nat.reduceLT, Nat.reduceSub, Int.reduceLT, Int.reduceLE, Int.reduceEq, Int.reduceToNat, Nat.reduceMul, eq_self, implies_true, forall_const, h1, h46, h47, h48, hm]
    refine CallW.sc (p71 N.no N.out f1 g1 ok.out hno) rfl ⟨trivial, trivial⟩ fun r hr => ⟨by subst hr; rfl, ?_⟩
    subst hr
    simp -implicitDefEqProofs only [vqa, Nat.reduceEqDiff, Nat.reduceAdd, reduceIte, Nat.reduceLeDiff, Nat.reduceBEq, Nat.reduceLT, Nat.reduceSub, Int.reduceLT, Int.reduceLE, Int.reduceEq, Int.reduceToNat, Nat.reduceMul, eq_self, implies_true, forall_const, h1, h46, h47, h48, hm]
    refine CallW.sc (p70 (namesF N.names (N.ni + N.nf)) (namesF N.out N.no) (fun i => [AV.int IntKind.i64 (namesF N.names (N.ni + N.nf)), AV.int IntKind.i64 (namesF N.out N.no)].getD i AV.undef) ⟨rfl, rfl⟩) ?_ ?_ fun r hr => ⟨by subst hr; rfl, ?_⟩
    · simp only [rsC, rs2, rs1, rs0, vqa, Nat.reduceEqDiff, Nat.reduceAdd, reduceIte, Nat.reduceLeDiff, Nat.reduceBEq, Nat.reduceLT, Nat.reduceSub, Int.reduceLT, Int.reduceLE, Int.reduceEq, Int.reduceToNat, Nat.reduceMul, eq_self, implies_true, forall_const]
    · simp only [rsC, rs2, rs1, rs0, vqa, Nat.reduceEqDiff, Nat.reduceAdd, reduceIte, Nat.reduceLeDiff, Nat.reduceBEq, Nat.reduceLT, Nat.reduceSub, Int.reduceLT, Int.reduceLE, Int.reduceEq, Int.reduceToNat, Nat.reduceMul, eq_self, implies_true, forall_const]
    subst hr
    have s1 : formF N = if (if namesF N.names (N.ni + N.nf) ≠ 0 then namesF N.names (N.ni + N.nf) else namesF N.out N.no) ≠ 0 then (if namesF N.names (N.ni + N.nf) ≠ 0 then namesF N.names (N.ni + N.nf) else namesF N.out N.no)
        else if scan (gateAt N) N.ng ≠ 0 then scan (gateAt N) N.ng
        else if scan (flopAt N) N.nf ≠ 0 then 2
        else scan (fun i => badNet N.nets (N.outs i)) N.nk := by
      unfold formF; rw [if_neg (by omega), if_neg (by omega)]
      by_cases e1 : namesF N.names (N.ni + N.nf) = 0
      · simp only [e1, ne_eq, not_true, if_false]
      · simp only [e1, ne_eq, not_false_eq_true, if_true]
    generalize hnm : (if namesF N.names (N.ni + N.nf) ≠ 0 then namesF N.names (N.ni + N.nf) else namesF N.out N.no) = nm at s1
    simp -implicitDefEqProofs only [vqa, Nat.reduceEqDiff, Nat.reduceAdd, reduceIte, Nat.reduceLeDiff, Nat.reduceBEq, Nat.reduceLT, Nat.reduceSub, Int.reduceLT, Int.reduceLE, Int.reduceEq, Int.reduceToNat, Nat.reduceMul, eq_self, implies_true, forall_const, h1, h46, h47, h48, hm]
    refine ⟨fun e1 => by rw [s1, if_pos e1], fun e1 => ?_⟩
    refine vL_join (fun v => v = .int .i64 ((N.ni + N.nf : Nat) : Int)) ?_ fun v hv => ?_
    · rcases hG with ⟨hz, h3⟩ | ⟨ver, g, h3, hm3, hg⟩ | ⟨ver, g, h3, hm3, hg⟩
      · simp -implicitDefEqProofs only [vqa, Nat.reduceEqDiff, Nat.reduceAdd, reduceIte, Nat.reduceLeDiff, Nat.reduceBEq, Nat.reduceLT, Nat.reduceSub, Int.reduceLT, Int.reduceLE, Int.reduceEq, Int.reduceToNat, Nat.reduceMul, eq_self, implies_true, forall_const, h3]; exact ⟨_, _, rfl, trivial, by rw [hz]; rfl⟩
      · simp -implicitDefEqProofs only [vqa, Nat.reduceEqDiff, Nat.reduceAdd, reduceIte, Nat.reduceLeDiff, Nat.reduceBEq, Nat.reduceLT, Nat.reduceSub, Int.reduceLT, Int.reduceLE, Int.reduceEq, Int.reduceToNat, Nat.reduceMul, eq_self, implies_true, forall_const, h3, hm3]; exact ⟨_, _, rfl, trivial, rfl⟩
      · simp -implicitDefEqProofs only [vqa, Nat.reduceEqDiff, Nat.reduceAdd, reduceIte, Nat.reduceLeDiff, Nat.reduceBEq, Nat.reduceLT, Nat.reduceSub, Int.reduceLT, Int.reduceLE, Int.reduceEq, Int.reduceToNat, Nat.reduceMul, eq_self, implies_true, forall_const, h3, hm3]; exact ⟨_, _, rfl, trivial, rfl⟩
    subst hv
    simp -implicitDefEqProofs only [vqa, Nat.reduceEqDiff, Nat.reduceAdd, reduceIte, Nat.reduceLeDiff, Nat.reduceBEq, Nat.reduceLT, Nat.reduceSub, Int.reduceLT, Int.reduceLE, Int.reduceEq, Int.reduceToNat, Nat.reduceMul, eq_self, implies_true, forall_const, h1, h46, h47, h48, hm]
    generalize (m 7).ver + 1 = V7
    have e1' : nm = 0 := Classical.not_not.1 e1
    have s2 : formF N = if scan (gateAt N) N.ng ≠ 0 then scan (gateAt N) N.ng
        else if scan (flopAt N) N.nf ≠ 0 then 2
        else scan (fun i => badNet N.nets (N.outs i)) N.nk := by rw [s1, if_neg e1]
    have hfi : N.first = 2 + N.ni + N.nf := rfl
    have hnt : N.nets = N.first + N.ng := rfl
    refine vFor N.ng (fun i e m => e 1 = .ptr 1 ((mem0 1).ver + 1) 0 ∧ e 8 = .fn 72 [.ptr 7 V7 0] ∧ e 7 = .ptr 7 V7 0 ∧ e 74 = .fs N.ng f3 ∧ e 75 = .int .i64 N.ng ∧ e 76 = .int .i64 i ∧ m 1 = .var ((mem0 1).ver + 1) [.fs N.ni f0, .fs N.no f1, .fs N.nf f2, .fs N.ng f3, .fs N.nk f4] ∧ m 7 = .var V7 [.int .i64 ((N.first + i : Nat) : Int)] ∧ scan (gateAt N) i = 0) ?_ ?_ ?_
    · simp -implicitDefEqProofs only [vqa, Nat.reduceEqDiff, Nat.reduceAdd, reduceIte, Nat.reduceLeDiff, Nat.reduceBEq, Nat.reduceLT, Nat.reduceSub, Int.reduceLT, Int.reduceLE, Int.reduceEq, Int.reduceToNat, Nat.reduceMul, eq_self, implies_true, forall_const, h1, hm]
      refine ⟨?_, rfl⟩
      rw [wI (by omega) (by omega), show (2 : Int) + ((N.ni + N.nf : Nat) : Int) = ((N.first : Nat) : Int) by omega]
    · rintro i e m hi hi' ⟨h1, h8, h7, h74, h75, h76, hm, hm7, hs⟩
      obtain ⟨q, hq, hqi⟩ := g3 i hi
      obtain ⟨gn, gc, gt, gi⟩ := ok.gate i hi
      have hend : ∀ c, gateAt N i = c → c ≠ 0 → c = formF N := fun c h1 h2 => by
        have := scan_stop hs h1 h2 _ hi
        rw [s2, this, if_pos h2]
      unfold a19_1
      simp -implicitDefEqProofs only [vqa, Nat.reduceEqDiff, Nat.reduceAdd, reduceIte, Nat.reduceLeDiff, Nat.reduceBEq, Nat.reduceLT, Nat.reduceSub, Int.reduceLT, Int.reduceLE, Int.reduceEq, Int.reduceToNat, Nat.reduceMul, eq_self, implies_true, forall_const, h1, h8, h7, h74, h75, h76, hm, hm7, hi', hq]
      refine ⟨by omega, fun k1 => hend 3 (by unfold gateAt; rw [if_pos (by omega)]) (by decide), fun k1 => ?_⟩
      refine vAny [0, 2, 7, 1, 3, 8, 4, 9, 5, 6, 10, 11, 12] 13 allL rfl rfl ?_
      simp -implicitDefEqProofs only [vqa, Nat.reduceEqDiff, Nat.reduceAdd, reduceIte, Nat.reduceLeDiff, Nat.reduceBEq, Nat.reduceLT, Nat.reduceSub, Int.reduceLT, Int.reduceLE, Int.reduceEq, Int.reduceToNat, Nat.reduceMul, eq_self, implies_true, forall_const, h1, h8, h7, h74, h75, h76, hm, hm7]
      refine CallW.sc (p23 _) rfl ⟨trivial, trivial⟩ fun r hr => ⟨by subst hr; rfl, ?_⟩
      subst hr
      simp -implicitDefEqProofs only [vqa, Nat.reduceEqDiff, Nat.reduceAdd, reduceIte, Nat.reduceLeDiff, Nat.reduceBEq, Nat.reduceLT, Nat.reduceSub, Int.reduceLT, Int.reduceLE, Int.reduceEq, Int.reduceToNat, Nat.reduceMul, eq_self, implies_true, forall_const, h1, h8, h7, h74, h75, h76, hm, hm7]
      refine CallW.sc (p23 _) rfl ⟨trivial, trivial⟩ fun r hr => ⟨by subst hr; rfl, ?_⟩
      subst hr
      simp -implicitDefEqProofs only [vqa, Nat.reduceEqDiff, Nat.reduceAdd, reduceIte, Nat.reduceLeDiff, Nat.reduceBEq, Nat.reduceLT, Nat.reduceSub, Int.reduceLT, Int.reduceLE, Int.reduceEq, Int.reduceToNat, Nat.reduceMul, eq_self, implies_true, forall_const, h1, h8, h7, h74, h75, h76, hm, hm7]
      have hor := @or_mask (N.gate i).table (maskF (N.gate i).n) (u64_maskF _)
      refine ⟨fun k2 => hend 4 (by unfold gateAt; rw [if_neg (by omega), if_pos (fun h => k2 (hor.2 h))]) (by decide), fun k2 => ?_⟩
      have gs : gateAt N i = scan (fun k => badNet (N.first + i : Nat) ((N.gate i).ins k)) (N.gate i).n := by unfold gateAt; rw [if_neg (by omega), if_neg (fun h => h (hor.1 (Classical.not_not.1 k2)))]
      refine CallW.sc (p73 (N.gate i).n (N.gate i).ins q ((N.first + i : Nat) : Int) hqi (by omega)) ?_ ?_ fun r hr => ⟨by subst hr; rfl, ?_⟩
      · simp only [rsC, rs2, rs1, rs0, vqa, Nat.reduceEqDiff, Nat.reduceAdd, reduceIte, Nat.reduceLeDiff, Nat.reduceBEq, Nat.reduceLT, Nat.reduceSub, Int.reduceLT, Int.reduceLE, Int.reduceEq, Int.reduceToNat, Nat.reduceMul, eq_self, implies_true, forall_const, hm7]
      · simp only [rsC, rs2, rs1, rs0, vqa, Nat.reduceEqDiff, Nat.reduceAdd, reduceIte, Nat.reduceLeDiff, Nat.reduceBEq, Nat.reduceLT, Nat.reduceSub, Int.reduceLT, Int.reduceLE, Int.reduceEq, Int.reduceToNat, Nat.reduceMul, eq_self, implies_true, forall_const, hm7]
      subst hr
      simp -implicitDefEqProofs only [vqa, Nat.reduceEqDiff, Nat.reduceAdd, reduceIte, Nat.reduceLeDiff, Nat.reduceBEq, Nat.reduceLT, Nat.reduceSub, Int.reduceLT, Int.reduceLE, Int.reduceEq, Int.reduceToNat, Nat.reduceMul, eq_self, implies_true, forall_const, h1, h8, h7, h74, h75, h76, hm, hm7]
      refine ⟨fun k3 => ?_, fun k3 => ⟨hi, wI (by omega) (by omega), ?_, scan_step hs (by rw [gs]; exact Classical.not_not.1 k3)⟩⟩
      · have h2 := scan_bad k3
        exact hend 2 (by rw [gs]; exact h2) (by decide)
      · rw [wI (by omega) (by omega)]; simp only [Int.natCast_add, Int.add_assoc]; rfl
    · rintro e m ⟨h1, h8, h7, h74, h75, h76, hm, hm7, hs⟩
      rw [hs] at s2
      simp only [ne_eq, not_true, if_false] at s2
      unfold a19_1
      simp -implicitDefEqProofs only [vqa, Nat.reduceEqDiff, Nat.reduceAdd, reduceIte, Nat.reduceLeDiff, Nat.reduceBEq, Nat.reduceLT, Nat.reduceSub, Int.reduceLT, Int.reduceLE, Int.reduceEq, Int.reduceToNat, Nat.reduceMul, eq_self, implies_true, forall_const, h1, h8, h7, h74, h75, h76, hm, hm7]
      refine vFor N.nf (fun i e m => e 1 = .ptr 1 ((mem0 1).ver + 1) 0 ∧ e 8 = .fn 72 [.ptr 7 V7 0] ∧ e 107 = .fs N.nf f2 ∧ e 108 = .int .i64 N.nf ∧ e 109 = .int .i64 i ∧ m 1 = .var ((mem0 1).ver + 1) [.fs N.ni f0, .fs N.no f1, .fs N.nf f2, .fs N.ng f3, .fs N.nk f4] ∧ m 7 = .var V7 [.int .i64 ((N.nets : Nat) : Int)] ∧ scan (flopAt N) i = 0) ?_ ?_ ?_
      · simp -implicitDefEqProofs only [vqa, Nat.reduceEqDiff, Nat.reduceAdd, reduceIte, Nat.reduceLeDiff, Nat.reduceBEq, Nat.reduceLT, Nat.reduceSub, Int.reduceLT, Int.reduceLE, Int.reduceEq, Int.reduceToNat, Nat.reduceMul, eq_self, implies_true, forall_const, h1, h8, h7, hm, hm7]
        exact ⟨rfl, rfl⟩
      · rintro i e m hi hi' ⟨h1, h8, h107, h108, h109, hm, hm7, hs⟩
        have hend : ∀ c, flopAt N i = c → c ≠ 0 → 2 = formF N := fun c h1 h2 => by
          have := scan_stop hs h1 h2 _ hi
          rw [s2, this, if_pos h2]
        unfold a19_2
        simp -implicitDefEqProofs only [vqa, Nat.reduceEqDiff, Nat.reduceAdd, reduceIte, Nat.reduceLeDiff, Nat.reduceBEq, Nat.reduceLT, Nat.reduceSub, Int.reduceLT, Int.reduceLE, Int.reduceEq, Int.reduceToNat, Nat.reduceMul, eq_self, implies_true, forall_const, h1, h8, h107, h108, h109, hm, hm7, hi', g2 i hi, FlopV.av]
        refine ⟨by omega, ?_⟩
        refine CallW.sc (p72 (N.flop i).d (N.nets : Nat)) ?_ ?_ fun r hr => ⟨by subst hr; rfl, ?_⟩
        · simp only [rsC, rs2, rs1, rs0, vqa, Nat.reduceEqDiff, Nat.reduceAdd, reduceIte, Nat.reduceLeDiff, Nat.reduceBEq, Nat.reduceLT, Nat.reduceSub, Int.reduceLT, Int.reduceLE, Int.reduceEq, Int.reduceToNat, Nat.reduceMul, eq_self, implies_true, forall_const, hm7]
        · simp only [rsC, rs2, rs1, rs0, vqa, Nat.reduceEqDiff, Nat.reduceAdd, reduceIte, Nat.reduceLeDiff, Nat.reduceBEq, Nat.reduceLT, Nat.reduceSub, Int.reduceLT, Int.reduceLE, Int.reduceEq, Int.reduceToNat, Nat.reduceMul, eq_self, implies_true, forall_const, hm7]
        subst hr
        simp -implicitDefEqProofs only [vqa, Nat.reduceEqDiff, Nat.reduceAdd, reduceIte, Nat.reduceLeDiff, Nat.reduceBEq, Nat.reduceLT, Nat.reduceSub, Int.reduceLT, Int.reduceLE, Int.reduceEq, Int.reduceToNat, Nat.reduceMul, eq_self, implies_true, forall_const, h1, h8, h107, h108, h109, hm, hm7]
        refine ⟨fun k1 => ?_, fun k1 => hend 2 (by unfold flopAt; rw [if_pos k1]) (by decide)⟩
        refine CallW.sc (p72 (N.flop i).en (N.nets : Nat)) ?_ ?_ fun r hr => ⟨by subst hr; rfl, ?_⟩
        · simp only [rsC, rs2, rs1, rs0, vqa, Nat.reduceEqDiff, Nat.reduceAdd, reduceIte, Nat.reduceLeDiff, Nat.reduceBEq, Nat.reduceLT, Nat.reduceSub, Int.reduceLT, Int.reduceLE, Int.reduceEq, Int.reduceToNat, Nat.reduceMul, eq_self, implies_true, forall_const, hm7]
        · simp only [rsC, rs2, rs1, rs0, vqa, Nat.reduceEqDiff, Nat.reduceAdd, reduceIte, Nat.reduceLeDiff, Nat.reduceBEq, Nat.reduceLT, Nat.reduceSub, Int.reduceLT, Int.reduceLE, Int.reduceEq, Int.reduceToNat, Nat.reduceMul, eq_self, implies_true, forall_const, hm7]
        subst hr
        simp -implicitDefEqProofs only [vqa, Nat.reduceEqDiff, Nat.reduceAdd, reduceIte, Nat.reduceLeDiff, Nat.reduceBEq, Nat.reduceLT, Nat.reduceSub, Int.reduceLT, Int.reduceLE, Int.reduceEq, Int.reduceToNat, Nat.reduceMul, eq_self, implies_true, forall_const, h1, h8, h107, h108, h109, hm, hm7]
        have fe : flopAt N i = badNet N.nets (N.flop i).en := by unfold flopAt; rw [if_neg k1]
        refine ⟨fun k2 => hend _ fe k2, fun k2 => ⟨hi, wI (by omega) (by omega), scan_step hs (by rw [fe]; exact Classical.not_not.1 k2)⟩⟩
      · rintro e m ⟨h1, h8, h107, h108, h109, hm, hm7, hs⟩
        rw [hs] at s2
        simp only [ne_eq, not_true, if_false] at s2
        unfold a19_2
        simp -implicitDefEqProofs only [vqa, Nat.reduceEqDiff, Nat.reduceAdd, reduceIte, Nat.reduceLeDiff, Nat.reduceBEq, Nat.reduceLT, Nat.reduceSub, Int.reduceLT, Int.reduceLE, Int.reduceEq, Int.reduceToNat, Nat.reduceMul, eq_self, implies_true, forall_const, h1, h8, h107, h108, h109, hm, hm7]
        refine CallW.sc (p73 N.nk N.outs f4 (N.nets : Nat) g4 (by omega)) ?_ ?_ fun r hr => ⟨by subst hr; rfl, ?_⟩
        · simp only [rsC, rs2, rs1, rs0, vqa, Nat.reduceEqDiff, Nat.reduceAdd, reduceIte, Nat.reduceLeDiff, Nat.reduceBEq, Nat.reduceLT, Nat.reduceSub, Int.reduceLT, Int.reduceLE, Int.reduceEq, Int.reduceToNat, Nat.reduceMul, eq_self, implies_true, forall_const, hm7]
        · simp only [rsC, rs2, rs1, rs0, vqa, Nat.reduceEqDiff, Nat.reduceAdd, reduceIte, Nat.reduceLeDiff, Nat.reduceBEq, Nat.reduceLT, Nat.reduceSub, Int.reduceLT, Int.reduceLE, Int.reduceEq, Int.reduceToNat, Nat.reduceMul, eq_self, implies_true, forall_const, hm7]
        subst hr
        simp -implicitDefEqProofs only [vqa, Nat.reduceEqDiff, Nat.reduceAdd, reduceIte, Nat.reduceLeDiff, Nat.reduceBEq, Nat.reduceLT, Nat.reduceSub, Int.reduceLT, Int.reduceLE, Int.reduceEq, Int.reduceToNat, Nat.reduceMul, eq_self, implies_true, forall_const, h1, h8, h107, h108, h109, hm, hm7]
        rw [s2]
        exact ⟨fun h => (scan_bad h).symm, fun h => (Classical.not_not.1 h).symm⟩
end Go.Ab
