/- Walks: the parts of Join. -/
import Derived.Test.YtodncnlnadgkhabSaGraph
import Derived.Test.YtodncnlnadgkhabLwJoin
import Derived.Test.YtodncnlnadgkhabLwValues
import Derived.Test.YtodncnlnadgkhabFwZ
set_option linter.unusedSimpArgs false
set_option linter.unusedVariables false
namespace Go.Ab
open Go
def b110 (b : Nat) : AC := (.seq (.ops [⟨(some 4), none, (.v (.mv (.c .cap0)))⟩]) (.seq (.seq (.ops [⟨(some 5), none, (.v (.mv (.t 1)))⟩, ⟨(some 6), none, (.v (.bin .lss (.t 5) (.c (.int .i64 0))))⟩]) (.cond (.t 6) (.ops [⟨(some 7), none, .bad⟩, ⟨none, none, .bad⟩]) .skip)) (.seq (.seq (.ops [⟨(some 8), none, (.v (.mv (.t 1)))⟩, ⟨(some 9), none, (.v (.mv (.t 0)))⟩, ⟨(some 10), none, (.v (.cp (.t 9)))⟩, ⟨(some 11), none, (.v (.mv (.t 0)))⟩, ⟨(some 12), none, (.v (.len (.t 11)))⟩, ⟨(some 13), none, (.v (.bin .sub (.t 10) (.t 12)))⟩, ⟨(some 14), none, (.v (.bin .sub (.t 8) (.t 13)))⟩, ⟨(some 1), none, (.v (.mv (.t 14)))⟩]) (.seq (.ops [⟨(some 15), none, (.v (.mv (.t 1)))⟩, ⟨(some 16), none, (.v (.bin .gtr (.t 15) (.c (.int .i64 0))))⟩]) (.cond (.t 16) (.ops [⟨(some 17), none, (.v (.mv (.t 0)))⟩, ⟨(some 18), none, (.v (.mv (.t 0)))⟩, ⟨(some 19), none, (.v (.cp (.t 18)))⟩, ⟨(some 20), none, (.v (.slc 1 (.t 17) none (some (.t 19))))⟩, ⟨(some 21), none, (.v (.mv (.t 1)))⟩, ⟨(some 22), none, (.e (.appz (b + 22) 9 1 16 [(.str ⟨#[]⟩)] (.t 20) (.t 21)))⟩, ⟨(some 23), none, (.v (.mv (.t 0)))⟩, ⟨(some 24), none, (.v (.len (.t 23)))⟩, ⟨(some 25), none, (.v (.slc 1 (.t 22) none (some (.t 24))))⟩, ⟨(some 0), none, (.v (.mv (.t 25)))⟩]) .skip))) (.seq (.ops [⟨(some 26), none, (.v (.mv (.t 0)))⟩, ⟨(some 4), none, (.v (.mv (.t 26)))⟩]) .ret))))
def q110 : List AI := [(.mv (.t 4))]
theorem g110 (b : Nat) : Fn PP 110 2 (b110 b) q110 := Fn.ofB b (fn := Go.Proofs.Try.f110) (by kernel_rfl) (by kernel_rfl) (by kernel_rfl)
def a99_0 : AC := (.seq (.ops [⟨(some 12), none, (.v (.bin .lss (.t 11) (.t 10)))⟩]) (.seq (.cond (.t 12) .skip (.exit 0)) (.seq (.block 1 (.seq (.ops [⟨(some 13), none, (.v (.idx 1 (.t 9) (.t 11)))⟩, ⟨(some 14), none, (.v (.load 1 false (.t 13)))⟩, ⟨(some 5), none, (.v (.mv (.t 14)))⟩]) (.seq (.ops [⟨(some 15), none, (.v (.mv (.t 3)))⟩, ⟨(some 16), none, (.v (.mv (.t 5)))⟩, ⟨(some 17), none, (.v (.len (.t 16)))⟩, ⟨(some 18), none, (.v (.bin .add (.t 15) (.t 17)))⟩, ⟨(some 3), none, (.v (.mv (.t 18)))⟩]) (.seq (.ops [⟨(some 19), none, (.v (.mv (.t 3)))⟩, ⟨(some 20), none, (.v (.bin .lss (.t 19) (.c (.int .i64 0))))⟩]) (.cond (.t 20) (.ops [⟨(some 21), none, .bad⟩, ⟨none, none, .bad⟩]) .skip))))) (.ops [⟨(some 22), none, (.v (.bin .add (.t 11) (.c (.int .i64 1))))⟩, ⟨(some 11), none, (.v (.mv (.t 22)))⟩]))))
def a99_1 : AC := (.seq (.ops [⟨(some 28), none, (.v (.bin .lss (.t 27) (.t 26)))⟩]) (.seq (.cond (.t 28) .skip (.exit 2)) (.seq (.block 3 (.seq (.ops [⟨(some 29), none, (.v (.idx 1 (.t 25) (.t 27)))⟩, ⟨(some 30), none, (.v (.load 1 false (.t 29)))⟩, ⟨(some 8), none, (.v (.mv (.t 30)))⟩]) (.ops [⟨(some 31), none, (.v (.mv (.t 6)))⟩, ⟨(some 32), none, (.v (.mv (.t 8)))⟩, ⟨(some 33), none, (.e (.app 33 9 1 16 (.t 31) (.t 32)))⟩, ⟨(some 6), none, (.v (.mv (.t 33)))⟩]))) (.ops [⟨(some 34), none, (.v (.bin .add (.t 27) (.c (.int .i64 1))))⟩, ⟨(some 27), none, (.v (.mv (.t 34)))⟩]))))
def a99 : AC := (.seq (.ops [⟨(some 2), none, (.v (.mv (.c .cap0)))⟩]) (.seq (.ops [⟨(some 3), none, (.v (.mv (.c (.int .i64 0))))⟩]) (.seq (.seq (.ops [⟨(some 9), none, (.v (.mv (.t 0)))⟩, ⟨(some 10), none, (.v (.len (.t 9)))⟩, ⟨(some 11), none, (.v (.mv (.c (.int .i64 0))))⟩]) (.block 0 (.loop a99_0))) (.seq (.ops [⟨(some 23), none, (.v (.mv (.t 3)))⟩, ⟨(some 24), none, (.call (.c (.fn 110 [])) [(.c .cap0), (.t 23)])⟩, ⟨(some 6), none, (.v (.mv (.t 24)))⟩]) (.seq (.seq (.ops [⟨(some 25), none, (.v (.mv (.t 0)))⟩, ⟨(some 26), none, (.v (.len (.t 25)))⟩, ⟨(some 27), none, (.v (.mv (.c (.int .i64 0))))⟩]) (.block 2 (.loop a99_1))) (.seq (.ops [⟨(some 35), none, (.v (.mv (.t 6)))⟩, ⟨(some 2), none, (.v (.mv (.t 35)))⟩]) .ret))))))
def r99 : List AI := [(.mv (.t 2))]
theorem f99 : Fn PP 99 1 a99 r99 := Fn.of (fn := Go.Proofs.Try.f99) (by kernel_rfl) (by kernel_rfl) (by kernel_rfl)
def a95 : AC := (.seq (.ops [⟨(some 6), none, (.v (.mv (.c (.int .i64 0))))⟩]) (.seq (.seq (.ops [⟨(some 7), none, (.v (.mv (.t 0)))⟩, ⟨(some 8), none, (.v (.fld 0 (.t 1)))⟩, ⟨(some 9), none, (.v (.load 1 false (.t 8)))⟩, ⟨(some 10), none, (.v (.len (.t 9)))⟩, ⟨(some 11), none, (.v (.bin .gtr (.t 7) (.t 10)))⟩]) (.cond (.t 11) (.ops [⟨(some 12), none, (.v (.mv (.t 0)))⟩, ⟨(some 13), none, (.v (.load 1 false (.t 2)))⟩, ⟨(some 14), none, (.v (.fld 0 (.t 1)))⟩, ⟨(some 15), none, (.v (.load 1 false (.t 14)))⟩, ⟨(some 16), none, (.v (.len (.t 15)))⟩, ⟨(some 17), none, (.v (.bin .sub (.t 13) (.t 16)))⟩, ⟨(some 18), none, (.v (.bin .add (.t 12) (.t 17)))⟩, ⟨(some 0), none, (.v (.mv (.t 18)))⟩]) .skip)) (.seq (.seq (.ops [⟨(some 19), none, (.v (.mv (.t 0)))⟩, ⟨(some 20), none, (.v (.load 1 false (.t 2)))⟩, ⟨(some 21), none, (.v (.load 1 false (.t 3)))⟩, ⟨(some 22), none, (.v (.bin .add (.t 20) (.t 21)))⟩, ⟨(some 23), none, (.v (.bin .gtr (.t 19) (.t 22)))⟩]) (.cond (.t 23) (.ops [⟨(some 24), none, (.v (.mv (.t 0)))⟩, ⟨(some 25), none, (.v (.fld 2 (.t 4)))⟩, ⟨(some 26), none, (.v (.load 1 false (.t 25)))⟩, ⟨(some 27), none, (.v (.len (.t 26)))⟩, ⟨(some 28), none, (.v (.bin .add (.t 24) (.t 27)))⟩, ⟨(some 0), none, (.v (.mv (.t 28)))⟩]) .skip)) (.seq (.ops [⟨(some 29), none, (.v (.mv (.t 0)))⟩, ⟨(some 30), none, (.v (.bin .mul (.c (.int .i64 2)) (.t 29)))⟩, ⟨(some 6), none, (.v (.mv (.t 30)))⟩]) .ret))))
def r95 : List AI := [(.mv (.t 6))]
theorem f95 : Fn PP 95 5 a95 r95 := Fn.of (fn := Go.Proofs.Try.f95) (by kernel_rfl) (by kernel_rfl) (by kernel_rfl)
def a96 : AC := (.seq (.ops [⟨(some 7), none, (.v (.mv (.c (.int .i64 0))))⟩]) (.seq (.ops [⟨(some 9), none, (.v (.fld 0 (.t 1)))⟩, ⟨(some 10), none, (.v (.load 1 false (.t 9)))⟩, ⟨(some 11), none, (.v (.len (.t 10)))⟩, ⟨(some 8), none, (.v (.mv (.t 11)))⟩]) (.block 0 (.seq (.ops [⟨(some 25), none, (.v (.mv (.t 0)))⟩, ⟨(some 26), none, (.v (.bin .eql (.t 25) (.c (.int .i64 0))))⟩, ⟨(some 24), none, (.v (.mv (.t 26)))⟩]) (.cond (.t 24) (.seq (.ops [⟨(some 7), none, (.v (.mv (.c (.int .i64 0))))⟩]) .ret) (.seq (.ops [⟨(some 28), none, (.v (.mv (.t 0)))⟩, ⟨(some 29), none, (.v (.mv (.t 8)))⟩, ⟨(some 30), none, (.v (.bin .leq (.t 28) (.t 29)))⟩, ⟨(some 27), none, (.v (.mv (.t 30)))⟩]) (.cond (.t 27) (.seq (.any [⟨(some 31), none, (.v (.fld 0 (.t 2)))⟩, ⟨(some 32), none, (.v (.load 1 false (.t 31)))⟩, ⟨(some 33), none, (.v (.fld 0 (.t 1)))⟩, ⟨(some 34), none, (.v (.load 1 false (.t 33)))⟩, ⟨(some 35), none, (.v (.mv (.t 0)))⟩, ⟨(some 36), none, (.v (.bin .sub (.t 35) (.c (.int .i64 1))))⟩, ⟨(some 37), none, (.v (.idx 1 (.t 34) (.t 36)))⟩, ⟨(some 38), none, (.v (.load 1 false (.t 37)))⟩, ⟨(some 39), none, (.call (.c (.fn 97 [])) [(.t 32), (.t 38)])⟩, ⟨(some 40), none, (.v (.bin .add (.c (.int .i64 1)) (.t 39)))⟩, ⟨(some 41), none, (.v (.bin .mul (.c (.int .i64 2)) (.t 40)))⟩, ⟨(some 7), none, (.v (.mv (.t 41)))⟩] [[], [0], [], [2], [], [4], [3, 5], [6], [1, 7], [8], [9], [10, 8, 0, 1, 2, 3, 4, 5, 6, 7, 8, 9, 10]]) .ret) (.seq (.ops [⟨(some 43), none, (.v (.mv (.t 0)))⟩, ⟨(some 44), none, (.v (.mv (.t 8)))⟩, ⟨(some 45), none, (.v (.fld 2 (.t 1)))⟩, ⟨(some 46), none, (.v (.load 1 false (.t 45)))⟩, ⟨(some 47), none, (.v (.len (.t 46)))⟩, ⟨(some 48), none, (.v (.bin .add (.t 44) (.t 47)))⟩, ⟨(some 49), none, (.v (.bin .leq (.t 43) (.t 48)))⟩, ⟨(some 42), none, (.v (.mv (.t 49)))⟩]) (.cond (.t 42) (.seq (.ops [⟨(some 50), none, (.v (.mv (.t 0)))⟩, ⟨(some 51), none, (.v (.mv (.t 8)))⟩, ⟨(some 52), none, (.v (.bin .sub (.t 50) (.t 51)))⟩, ⟨(some 53), none, (.v (.load 1 false (.t 3)))⟩, ⟨(some 54), none, (.v (.bin .add (.t 52) (.t 53)))⟩, ⟨(some 55), none, (.v (.load 1 false (.t 4)))⟩, ⟨(some 56), none, (.v (.bin .add (.t 54) (.t 55)))⟩, ⟨(some 57), none, (.v (.bin .mul (.c (.int .i64 2)) (.t 56)))⟩, ⟨(some 7), none, (.v (.mv (.t 57)))⟩]) .ret) (.seq (.ops [⟨(some 12), none, (.v (.mv (.t 0)))⟩, ⟨(some 13), none, (.v (.mv (.t 8)))⟩, ⟨(some 14), none, (.v (.bin .sub (.t 12) (.t 13)))⟩, ⟨(some 15), none, (.v (.load 1 false (.t 3)))⟩, ⟨(some 16), none, (.v (.bin .add (.t 14) (.t 15)))⟩, ⟨(some 17), none, (.v (.load 1 false (.t 4)))⟩, ⟨(some 18), none, (.v (.bin .add (.t 16) (.t 17)))⟩, ⟨(some 19), none, (.v (.fld 3 (.t 5)))⟩, ⟨(some 20), none, (.v (.load 1 false (.t 19)))⟩, ⟨(some 21), none, (.v (.len (.t 20)))⟩, ⟨(some 22), none, (.v (.bin .add (.t 18) (.t 21)))⟩, ⟨(some 23), none, (.v (.bin .mul (.c (.int .i64 2)) (.t 22)))⟩, ⟨(some 7), none, (.v (.mv (.t 23)))⟩]) .ret))))))))))
def r96 : List AI := [(.mv (.t 7))]
theorem f96 : Fn PP 96 6 a96 r96 := Fn.of (fn := Go.Proofs.Try.f96) (by kernel_rfl) (by kernel_rfl) (by kernel_rfl)
def a109 : AC := (.seq (.ops [⟨(some 3), none, (.v (.mv (.c (.int .i64 0))))⟩]) (.seq (.ops [⟨(some 4), none, (.v (.load 1 false (.t 1)))⟩, ⟨(some 5), none, (.v (.mv (.t 0)))⟩, ⟨(some 6), none, (.v (.bin .quo (.t 5) (.c (.int .i64 2))))⟩, ⟨(some 7), none, (.call (.t 4) [(.t 6)])⟩, ⟨(some 8), none, (.v (.mv (.t 0)))⟩, ⟨(some 9), none, (.v (.bin .rem (.t 8) (.c (.int .i64 2))))⟩, ⟨(some 10), none, (.v (.bin .xor (.t 7) (.t 9)))⟩, ⟨(some 3), none, (.v (.mv (.t 10)))⟩]) .ret))
def r109 : List AI := [(.mv (.t 3))]
theorem f109 : Fn PP 109 2 a109 r109 := Fn.of (fn := Go.Proofs.Try.f109) (by kernel_rfl) (by kernel_rfl) (by kernel_rfl)
/-- slices.Index of names: which. -/
theorem p97i (n : Nat) (x : Nat → ByteArray) (f : Nat → AV) (q : ByteArray) (hf : ∀ i, i < n → f i = .str (x i)) (hn : n ≤ 1048576) (hq : seenB x n q) : Pure PP 97 [.fs n f, .str q] fun r => r = .int .i64 (fstI x q n : Nat) := by
  refine Fn.pure fmix f97 ?_
  unfold a97 r97
  simp -implicitDefEqProofs only [vqa, Nat.reduceEqDiff, Nat.reduceAdd, reduceIte, Nat.reduceLeDiff, Nat.reduceBEq, Nat.reduceLT, Nat.reduceSub, Int.reduceLT, Int.reduceLE, Int.reduceEq, Int.reduceToNat, Nat.reduceMul, eq_self, implies_true, forall_const]
  refine vFor n (fun i e m => e 0 = .fs n f ∧ e 1 = .str q ∧ e 6 = .fs n f ∧ e 7 = .int .i64 n ∧ e 8 = .int .i64 i ∧ ∀ j, j < i → x j ≠ q) ?_ ?_ ?_
  · simp -implicitDefEqProofs only [vqa, Nat.reduceEqDiff, Nat.reduceAdd, reduceIte, Nat.reduceLeDiff, Nat.reduceBEq, Nat.reduceLT, Nat.reduceSub, Int.reduceLT, Int.reduceLE, Int.reduceEq, Int.reduceToNat, Nat.reduceMul, eq_self, implies_true, forall_const]
  · rintro i e m hi hi' ⟨h0, h1, h6, h7, h8, hs⟩
    unfold a97_0
    simp -implicitDefEqProofs only [vqa, Nat.reduceEqDiff, Nat.reduceAdd, reduceIte, Nat.reduceLeDiff, Nat.reduceBEq, Nat.reduceLT, Nat.reduceSub, Int.reduceLT, Int.reduceLE, Int.reduceEq, Int.reduceToNat, Nat.reduceMul, eq_self, implies_true, forall_const, h0, h1, h6, h7, h8, hi', hf i hi]
    refine ⟨by omega, fun he => ?_, fun hne => ⟨hi, wI (by omega) (by omega), fun j hj => ?_⟩⟩
    · rw [fstI_of he.symm hs n hi]
    · by_cases k : j < i
      · exact hs j k
      · obtain rfl : j = i := by omega
        exact fun e => hne e.symm
  · rintro e m ⟨h0, h1, h6, h7, h8, hs⟩
    obtain ⟨j, hj, e⟩ := hq
    exact absurd e (hs j hj)
theorem p110 (b : Nat) (mem : Mem) (n : Nat) (hn : n ≤ 4194304) : CallW PP 110 [.cap0, .int .i64 n] mem fun r m => Keeps b mem m ∧ ((n = 0 ∧ r = .cap0) ∨ ∃ ver f, r = .sl (b + 22) ver 0 ∧ m (b + 22) = .row ver 9 1 n f) := by
  refine Fn.call fmix (g110 b) ?_
  unfold b110 q110
  simp -implicitDefEqProofs only [vqa, Nat.reduceEqDiff, Nat.reduceAdd, reduceIte, Nat.reduceLeDiff, Nat.reduceBEq, Nat.reduceLT, Nat.reduceSub, Int.reduceLT, Int.reduceLE, Int.reduceEq, Int.reduceToNat, Nat.reduceMul, eq_self, implies_true, forall_const]
  rw [wI (n := (0 : Int) - 0) (by omega) (by omega), wI (n := (n : Int) - (0 - 0)) (by omega) (by omega)]
  simp -implicitDefEqProofs only [vqa, Nat.reduceEqDiff, Nat.reduceAdd, reduceIte, Nat.reduceLeDiff, Nat.reduceBEq, Nat.reduceLT, Nat.reduceSub, Int.reduceLT, Int.reduceLE, Int.reduceEq, Int.reduceToNat, Nat.reduceMul, eq_self, implies_true, forall_const, Int.sub_zero]
  refine ⟨fun h => absurd h (by omega), fun _ => ⟨fun h => ?_, fun h => ?_⟩⟩
  · exact ⟨by omega, by omega, .inr ⟨_, _, rfl, rfl⟩⟩
  · exact .inl (by omega)

/-- The lists f 0 .. f (k-1), of n 0 .. n (k-1) truths. -/
theorem p99 (k : Nat) (n : Nat → Nat) (f : Nat → Nat → AV) (q : Nat → AV) (hq : ∀ i, i < k → q i = .fs (n i) (f i)) (hf : ∀ i, i < k → ∀ j, j < n i → (f i j).cells.length = 1 ∧ (f i j).cells.all AV.isCell = true) (hn : pre n k ≤ 4194304) (hk : k ≤ 1048576) :
    Pure PP 99 [.fs k q] fun r => ∃ g, r = .fs (pre n k) g ∧ ∀ i, i < pre n k → g i = cat n f k i := by
  refine Fn.pure fmix f99 ?_
  unfold a99 r99
  simp -implicitDefEqProofs only [vqa, Nat.reduceEqDiff, Nat.reduceAdd, reduceIte, Nat.reduceLeDiff, Nat.reduceBEq, Nat.reduceLT, Nat.reduceSub, Int.reduceLT, Int.reduceLE, Int.reduceEq, Int.reduceToNat, Nat.reduceMul, eq_self, implies_true, forall_const]
  refine vFor k (fun i e m => m = mem0 ∧ e 0 = .fs k q ∧ e 9 = .fs k q ∧ e 10 = .int .i64 k ∧ e 11 = .int .i64 i ∧ e 3 = .int .i64 (pre n i : Nat)) ?_ ?_ ?_
  · simp -implicitDefEqProofs only [vqa, Nat.reduceEqDiff, Nat.reduceAdd, reduceIte, Nat.reduceLeDiff, Nat.reduceBEq, Nat.reduceLT, Nat.reduceSub, Int.reduceLT, Int.reduceLE, Int.reduceEq, Int.reduceToNat, Nat.reduceMul, eq_self, implies_true, forall_const]
    rfl
  · rintro i e m hi hi' ⟨rfl, h0, h9, h10, h11, h3⟩
    have hle := pre_le n (i := i + 1) k hi
    have hp : pre n (i + 1) = pre n i + n i := rfl
    unfold a99_0
    simp -implicitDefEqProofs only [vqa, Nat.reduceEqDiff, Nat.reduceAdd, reduceIte, Nat.reduceLeDiff, Nat.reduceBEq, Nat.reduceLT, Nat.reduceSub, Int.reduceLT, Int.reduceLE, Int.reduceEq, Int.reduceToNat, Nat.reduceMul, eq_self, implies_true, forall_const, h0, h9, h10, h11, h3, hi', hq i hi]
    rw [wI (n := ((pre n i : Nat) : Int) + (n i : Nat)) (by omega) (by omega)]
    refine ⟨by omega, fun h => absurd h (by omega), fun _ => ⟨hi, wI (by omega) (by omega), by rw [hp]; rfl⟩⟩
  · rintro e m ⟨rfl, h0, h9, h10, h11, h3⟩
    unfold a99_0
    simp -implicitDefEqProofs only [vqa, Nat.reduceEqDiff, Nat.reduceAdd, reduceIte, Nat.reduceLeDiff, Nat.reduceBEq, Nat.reduceLT, Nat.reduceSub, Int.reduceLT, Int.reduceLE, Int.reduceEq, Int.reduceToNat, Nat.reduceMul, eq_self, implies_true, forall_const, h0, h9, h10, h11, h3]
    refine (p110 1000 mem0 (pre n k) hn).mono fun r m ⟨hk1, hr⟩ => ?_
    have hr' : (pre n k = 0 ∧ r = .cap0) ∨ ∃ ver f, r = .sl 1022 ver 0 ∧ m 1022 = .row ver 9 1 (pre n k) f := by
      rcases hr with h | ⟨ver, f, h1, h2⟩
      · exact .inl h
      · exact .inr ⟨ver, f, h1, h2⟩
    simp -implicitDefEqProofs only [vqa, Nat.reduceEqDiff, Nat.reduceAdd, reduceIte, Nat.reduceLeDiff, Nat.reduceBEq, Nat.reduceLT, Nat.reduceSub, Int.reduceLT, Int.reduceLE, Int.reduceEq, Int.reduceToNat, Nat.reduceMul, eq_self, implies_true, forall_const, h0]
    refine vFor k (fun i e m => e 25 = .fs k q ∧ e 26 = .int .i64 k ∧ e 27 = .int .i64 i ∧ ((pre n k = 0 ∧ e 6 = .cap0) ∨ ∃ ver n' g, e 6 = .sl 1022 ver (pre n i) ∧ (n' = pre n i ∨ (i = 0 ∧ n' = pre n k)) ∧ m 1022 = .row ver 9 1 n' g ∧ ∀ j, j < pre n i → g j = cat n f i j)) ?_ ?_ ?_
    · simp -implicitDefEqProofs only [vqa, Nat.reduceEqDiff, Nat.reduceAdd, reduceIte, Nat.reduceLeDiff, Nat.reduceBEq, Nat.reduceLT, Nat.reduceSub, Int.reduceLT, Int.reduceLE, Int.reduceEq, Int.reduceToNat, Nat.reduceMul, eq_self, implies_true, forall_const]
      rcases hr' with h | ⟨ver, f, h1, h2⟩
      · exact .inl h
      · exact .inr ⟨ver, _, f, h1, .inr rfl, h2, fun j hj => absurd hj (Nat.not_lt_zero _)⟩
    · rintro i e m hi hi' ⟨h25, h26, h27, hA⟩
      have hle := pre_le n (i := i + 1) k hi
      have hp : pre n (i + 1) = pre n i + n i := rfl
      unfold a99_1
      rcases hA with ⟨hz, h6⟩ | ⟨ver, n', g, h6, hn', hm, hg⟩
      · have hni : n i = 0 := by omega
        simp -implicitDefEqProofs only [vqa, Nat.reduceEqDiff, Nat.reduceAdd, reduceIte, Nat.reduceLeDiff, Nat.reduceBEq, Nat.reduceLT, Nat.reduceSub, Int.reduceLT, Int.reduceLE, Int.reduceEq, Int.reduceToNat, Nat.reduceMul, eq_self, implies_true, forall_const, h25, h26, h27, h6, hi', hq i hi, hni]
        exact ⟨by omega, hi, wI (by omega) (by omega), .inl hz⟩
      · simp -implicitDefEqProofs only [vqa, Nat.reduceEqDiff, Nat.reduceAdd, reduceIte, Nat.reduceLeDiff, Nat.reduceBEq, Nat.reduceLT, Nat.reduceSub, Int.reduceLT, Int.reduceLE, Int.reduceEq, Int.reduceToNat, Nat.reduceMul, eq_self, implies_true, forall_const, h25, h26, h27, h6, hm, hi', hq i hi]
        have hle0 := pre_le n (i := i) k (by omega)
        refine ⟨by omega, ⟨fun j hj => hf i hi j hj, by omega, by omega, by omega⟩, hi, wI (by omega) (by omega), .inr ⟨_, _, _, rfl, .inl rfl, rfl, fun j hj => ?_⟩⟩
        simp only [cat]
        by_cases h : j < pre n i
        · simp only [h, decide_true, cond_true, if_true]; exact hg j h
        · simp only [h, decide_false, cond_false, if_false]
    · rintro e m ⟨h25, h26, h27, hA⟩
      unfold a99_1
      rcases hA with ⟨hz, h6⟩ | ⟨ver, n', g, h6, hn', hm, hg⟩
      · simp -implicitDefEqProofs only [vqa, Nat.reduceEqDiff, Nat.reduceAdd, reduceIte, Nat.reduceLeDiff, Nat.reduceBEq, Nat.reduceLT, Nat.reduceSub, Int.reduceLT, Int.reduceLE, Int.reduceEq, Int.reduceToNat, Nat.reduceMul, eq_self, implies_true, forall_const, h25, h26, h27, h6]
        rw [hz]
        exact ⟨_, rfl, fun i hi => absurd hi (Nat.not_lt_zero _)⟩
      · simp -implicitDefEqProofs only [vqa, Nat.reduceEqDiff, Nat.reduceAdd, reduceIte, Nat.reduceLeDiff, Nat.reduceBEq, Nat.reduceLT, Nat.reduceSub, Int.reduceLT, Int.reduceLE, Int.reduceEq, Int.reduceToNat, Nat.reduceMul, eq_self, implies_true, forall_const, h25, h26, h27, h6, hm]
        have hn2 : n' = pre n k := by
          rcases hn' with h | ⟨h, h2⟩
          · exact h
          · exact h2
        subst hn2
        exact ⟨_, rfl, hg⟩

/-- Where old nodes of G go. -/
theorem p95 {G H : Gra} {cs ds : List AV} (hG : GraC cs G) (ok : G.Ok) (hH : GraC ds H) (kk : H.Ok) {mem : Mem} {o2 v2 o11 v11 o12 v12 o3 v3 : Nat} (m2 : mem o2 = .var v2 cs) (m3 : mem o3 = .var v3 ds) (hz : graphF G = 0) (hz2 : graphF H = 0)
    (m11 : mem o11 = .var v11 [.int .i64 ((joinT G H).length : Nat)]) (m12 : mem o12 = .var v12 [.int .i64 G.nr]) (i : Nat) (hi : i < G.nodes) :
    CallW PP 95 [.int .i64 (i : Nat), .ptr o2 v2 0, .ptr o11 v11 0, .ptr o12 v12 0, .ptr o3 v3 0] mem fun r m => r = .int .i64 (2 * (toG G H i : Nat) : Int) ∧ m = mem := by
  obtain ⟨f0, f1, f2, f3, f4, rfl, g0, g1, g2, g3, g4⟩ := hG
  obtain ⟨h0, h1, h2, h3, h4, rfl, k0, k1, k2, k3, k4⟩ := hH
  have gd := good_of hz; have gh := good_of hz2
  have b1 := gd.ni; have b2 := gd.nr; have b3 := gd.na; have b4 := gh.ni; have b5 := gh.nr
  have hl := joinT_len G H
  have hn : G.nodes = 1 + G.ni + G.nr + G.na := rfl
  have hT := toG_old (H := H) hz i
  refine Fn.call fmix f95 ?_
  unfold a95 r95
  simp -implicitDefEqProofs only [vqa, Nat.reduceEqDiff, Nat.reduceAdd, reduceIte, Nat.reduceLeDiff, Nat.reduceBEq, Nat.reduceLT, Nat.reduceSub, Int.reduceLT, Int.reduceLE, Int.reduceEq, Int.reduceToNat, Nat.reduceMul, eq_self, implies_true, forall_const, m2, m3, m11, m12]
  have w1 : IntKind.i64.wrap ((i : Nat) + IntKind.i64.wrap (((joinT G H).length : Nat) - (G.ni : Nat) : Int)) = (i : Int) + ((joinT G H).length : Nat) - G.ni := by
    rw [wI (n := (((joinT G H).length : Nat) : Int) - (G.ni : Nat)) (by omega) (by omega), wI (by omega) (by omega)]; omega
  have w2 : IntKind.i64.wrap ((((joinT G H).length : Nat) : Int) + (G.nr : Nat)) = ((joinT G H).length : Nat) + (G.nr : Nat) := wI (by omega) (by omega)
  rw [w1, w2, hT]
  refine ⟨fun a => ⟨fun b => ?_, fun b => ?_⟩, fun a => ⟨fun b => ?_, fun b => ?_⟩⟩
  · rw [wI (n := (i : Int) + ((joinT G H).length : Nat) - G.ni + H.nr) (by omega) (by omega), wI (by omega) (by omega), if_pos (show G.ni < i by omega), if_pos (by omega)]; omega
  · rw [wI (by omega) (by omega), if_pos (show G.ni < i by omega), if_neg (by omega)]; omega
  · rw [wI (n := (i : Int) + H.nr) (by omega) (by omega), wI (by omega) (by omega), if_neg (show ¬ G.ni < i by omega), if_pos (by omega)]; omega
  · rw [wI (by omega) (by omega), if_neg (show ¬ G.ni < i by omega), if_neg (by omega)]

/-- Where nodes of the second graph go. -/
theorem p96 {G H : Gra} {ds : List AV} (hH : GraC ds H) (kk : H.Ok) (hz : graphF G = 0) (hz2 : graphF H = 0) {mem : Mem} {o3 v3 o8 v8 o11 v11 o12 v12 o2 v2 id ver : Nat} {x0 y1 y2 y3 y4 z0 z1 z2 z4 : AV} {za : Nat → AV} {nm : Nat → AV}
    (m2 : mem o2 = .var v2 [z0, z1, z2, .fs G.na za, z4]) (m3 : mem o3 = .var v3 ds) (m8 : mem o8 = .var v8 [x0, y1, y2, y3, y4]) (m11 : mem o11 = .var v11 [.int .i64 ((joinT G H).length : Nat)]) (m12 : mem o12 = .var v12 [.int .i64 G.nr])
    (hx : ((joinT G H).length = 0 ∧ x0 = .cap0) ∨ (x0 = .sl id ver (joinT G H).length ∧ mem id = .row ver 9 1 (joinT G H).length nm ∧ ∀ k, k < (joinT G H).length → nm k = .str (nmA (joinT G H) k))) (i : Nat) (hi : i < H.nodes) :
    CallW PP 96 [.int .i64 (i : Nat), .ptr o3 v3 0, .ptr o8 v8 0, .ptr o11 v11 0, .ptr o12 v12 0, .ptr o2 v2 0] mem fun r m => r = .int .i64 (2 * (toH G H i : Nat) : Int) ∧ m = mem := by
  obtain ⟨h0, h1, h2, h3, h4, rfl, k0, k1, k2, k3, k4⟩ := hH
  have gd := good_of hz; have gh := good_of hz2
  have b1 := gd.ni; have b2 := gd.nr; have b3 := gd.na; have b4 := gh.ni; have b5 := gh.nr; have b6 := gh.na
  have hl := joinT_len G H
  have hn : H.nodes = 1 + H.ni + H.nr + H.na := rfl
  refine Fn.call fmix f96 ?_
  unfold a96 r96
  simp -implicitDefEqProofs only [vqa, Nat.reduceEqDiff, Nat.reduceAdd, reduceIte, Nat.reduceLeDiff, Nat.reduceBEq, Nat.reduceLT, Nat.reduceSub, Int.reduceLT, Int.reduceLE, Int.reduceEq, Int.reduceToNat, Nat.reduceMul, eq_self, implies_true, forall_const, m2, m3, m8, m11, m12]
  refine ⟨fun e1 => ?_, fun e1 => ⟨fun e2 => ?_, fun e2 => ⟨fun e3 => ?_, fun e3 => ?_⟩⟩⟩
  · have e : toH G H i = 0 := by unfold toH jN; rw [if_neg (by omega), if_neg (by omega), if_neg (by omega)]
    rw [e]; rfl
  · obtain ⟨j, rfl⟩ : ∃ j, i = j + 1 := ⟨i - 1, by omega⟩
    have hj : j < H.ni := by omega
    have hj' : (j : Int) < (H.ni : Nat) := by omega
    have w : IntKind.i64.wrap (((j + 1 : Nat) : Int) - 1) = (j : Nat) := by rw [wI (by omega) (by omega)]; omega
    have hf := fst_H (G := G) hj
    have e : toH G H (j + 1) = 1 + fstI (nmA (joinT G H)) (H.inn j) (joinT G H).length := by unfold toH jN; rw [if_neg (by omega), if_neg (by omega), if_pos (by omega)]; rfl
    rcases hx with ⟨hx, _⟩ | ⟨rfl, mi, hnm⟩
    · omega
    · refine vAny [0, 1, 2, 3, 4, 5, 6, 7, 8, 9, 10, 11] 12 allL (by kernel_rfl) (by kernel_rfl) ?_
      simp -implicitDefEqProofs only [vqa, Nat.reduceEqDiff, Nat.reduceAdd, reduceIte, Nat.reduceLeDiff, Nat.reduceBEq, Nat.reduceLT, Nat.reduceSub, Int.reduceLT, Int.reduceLE, Int.reduceEq, Int.reduceToNat, Nat.reduceMul, eq_self, implies_true, forall_const, m2, m3, m8, m11, m12, mi, w, hj', k0 j hj]
      refine ⟨by omega, ?_⟩
      refine CallW.sc (p97i (joinT G H).length (nmA (joinT G H)) nm (H.inn j) hnm (by omega) (seen_nm.2 ((joinI_mem _ _).2 (.inr ⟨j, hj, rfl⟩)))) ?_ ?_ fun r hr => ⟨by subst hr; rfl, ?_⟩
      · simp only [rsC, rs2, rs1, rs0, vqa, Nat.reduceEqDiff, Nat.reduceAdd, reduceIte, Nat.reduceLeDiff, Nat.reduceBEq, Nat.reduceLT, Nat.reduceSub, Int.reduceLT, Int.reduceLE, Int.reduceEq, Int.reduceToNat, Nat.reduceMul, eq_self, implies_true, forall_const, mi]
      · simp only [rsC, rs2, rs1, rs0, vqa, Nat.reduceEqDiff, Nat.reduceAdd, reduceIte, Nat.reduceLeDiff, Nat.reduceBEq, Nat.reduceLT, Nat.reduceSub, Int.reduceLT, Int.reduceLE, Int.reduceEq, Int.reduceToNat, Nat.reduceMul, eq_self, implies_true, forall_const, mi]
      subst hr
      simp -implicitDefEqProofs only [vqa, Nat.reduceEqDiff, Nat.reduceAdd, reduceIte, Nat.reduceLeDiff, Nat.reduceBEq, Nat.reduceLT, Nat.reduceSub, Int.reduceLT, Int.reduceLE, Int.reduceEq, Int.reduceToNat, Nat.reduceMul, eq_self, implies_true, forall_const, m2, m3, m8, m11, m12, mi]
      rw [wI (n := (1 : Int) + (fstI (nmA (joinT G H)) (H.inn j) (joinT G H).length : Nat)) (by omega) (by omega), wI (by omega) (by omega), e]
      omega
  · have e : toH G H i = 1 + (joinT G H).length + G.nr + (i - 1 - H.ni) := by
      have := wI (n := (H.ni : Int) + H.nr) (by omega) (by omega)
      unfold toH jN; rw [if_neg (by omega), if_pos (by omega)]
    rw [wI (n := (i : Int) - H.ni) (by omega) (by omega), wI (n := (i : Int) - H.ni + ((joinT G H).length : Nat)) (by omega) (by omega), wI (n := (i : Int) - H.ni + ((joinT G H).length : Nat) + G.nr) (by omega) (by omega), wI (by omega) (by omega), e]
    omega
  · have hw := wI (n := (H.ni : Int) + H.nr) (by omega) (by omega)
    have e : toH G H i = 1 + (joinT G H).length + (G.nr + H.nr) + G.na + (i - 1 - H.ni - H.nr) := by
      unfold toH jN; rw [if_pos (by omega)]
    rw [wI (n := (i : Int) - H.ni) (by omega) (by omega), wI (n := (i : Int) - H.ni + ((joinT G H).length : Nat)) (by omega) (by omega), wI (n := (i : Int) - H.ni + ((joinT G H).length : Nat) + G.nr) (by omega) (by omega), wI (n := (i : Int) - H.ni + ((joinT G H).length : Nat) + G.nr + G.na) (by omega) (by omega), wI (by omega) (by omega), e]
    omega

/-- What the function v of nodes says, wherever I holds: node i goes to T i. -/
def ToC (v : AV) (T : Nat → Nat) (n : Nat) (I : Mem → Prop) : Prop := ∃ k caps, v = .fn k caps ∧ ∀ mem, I mem → ∀ i : Nat, i < n → CallW PP k (.int .i64 (i : Nat) :: caps) mem fun r m => r = .int .i64 (2 * (T i : Nat) : Int) ∧ m = mem
theorem jL_xor {t : Nat} {l : Int} (ht : t ≤ 1000000000) (h0 : 0 ≤ l) : bitop .xor .i64 (2 * (t : Nat) : Int) (l % 2) = 2 * (t : Nat) + l % 2 := by
  rcases (by omega : l % 2 = 0 ∨ l % 2 = 1) with h | h
  · rw [h, xor_zero (by omega) (by omega)]; omega
  · have := x1_val (l := 2 * (t : Int)) (by omega) (by omega)
    unfold x1 at this
    rw [h, this, if_pos (by omega)]
theorem p109 {v : AV} {T : Nat → Nat} {n : Nat} {I : Mem → Prop} (hv : ToC v T n I) {mem : Mem} (hI : I mem) {o V : Nat} (ho : mem o = .var V [v]) (l : Int) (hl : litOk n l) (hn : n ≤ 100000) (hT : ∀ i, i < n → T i ≤ 1000000) :
    CallW PP 109 [.int .i64 l, .ptr o V 0] mem fun r m => r = .int .i64 (jL T l) ∧ m = mem := by
  obtain ⟨k, caps, rfl, hc⟩ := hv
  obtain ⟨h0, h1⟩ := hl
  have hi : (l / 2).toNat < n := by omega
  have e : IntKind.i64.wrap (l.tdiv 2) = ((l / 2).toNat : Nat) := by rw [tdiv_two h0, wI (by omega) (by omega)]; omega
  refine Fn.call fmix f109 ?_
  unfold a109 r109
  simp -implicitDefEqProofs only [vqa, Nat.reduceEqDiff, Nat.reduceAdd, reduceIte, Nat.reduceLeDiff, Nat.reduceBEq, Nat.reduceLT, Nat.reduceSub, Int.reduceLT, Int.reduceLE, Int.reduceEq, Int.reduceToNat, Nat.reduceMul, eq_self, implies_true, forall_const, ho, e]
  refine ⟨by decide, (hc mem hI _ hi).mono fun r m ⟨hr, hm⟩ => ?_⟩
  subst hr; subst hm
  have := hT _ hi
  simp -implicitDefEqProofs only [vqa, Nat.reduceEqDiff, Nat.reduceAdd, reduceIte, Nat.reduceLeDiff, Nat.reduceBEq, Nat.reduceLT, Nat.reduceSub, Int.reduceLT, Int.reduceLE, Int.reduceEq, Int.reduceToNat, Nat.reduceMul, eq_self, implies_true, forall_const, ho]
  exact ⟨by decide, by rw [tmod_two h0, jL_xor (by omega) h0]; rfl⟩
end Go.Ab
