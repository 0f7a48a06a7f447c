/- Walks: Grow and Concat of truths. -/
import Derived.Test.YtodncnlnadgkhaaSaBase
import Derived.Test.YtodncnlnadgkhaaLwValues
set_option linter.unusedSimpArgs false
set_option linter.unusedVariables false
namespace Go.Ab
open Go
def b130 (b : Nat) : AC := (.seq (.ops [⟨(some 4), none, (.v (.mv (.c .cap0)))⟩]) (.seq (.seq (.ops [⟨(some 5), none, (.v (.mv (.t 1)))⟩, ⟨(some 6), none, (.v (.bin .lss (.t 5) (.c (.int .i64 0))))⟩]) (.cond (.t 6) (.ops [⟨(some 7), none, .bad⟩, ⟨none, none, .bad⟩]) .skip)) (.seq (.seq (.ops [⟨(some 8), none, (.v (.mv (.t 1)))⟩, ⟨(some 9), none, (.v (.mv (.t 0)))⟩, ⟨(some 10), none, (.v (.cp (.t 9)))⟩, ⟨(some 11), none, (.v (.mv (.t 0)))⟩, ⟨(some 12), none, (.v (.len (.t 11)))⟩, ⟨(some 13), none, (.v (.bin .sub (.t 10) (.t 12)))⟩, ⟨(some 14), none, (.v (.bin .sub (.t 8) (.t 13)))⟩, ⟨(some 1), none, (.v (.mv (.t 14)))⟩]) (.seq (.ops [⟨(some 15), none, (.v (.mv (.t 1)))⟩, ⟨(some 16), none, (.v (.bin .gtr (.t 15) (.c (.int .i64 0))))⟩]) (.cond (.t 16) (.ops [⟨(some 17), none, (.v (.mv (.t 0)))⟩, ⟨(some 18), none, (.v (.mv (.t 0)))⟩, ⟨(some 19), none, (.v (.cp (.t 18)))⟩, ⟨(some 20), none, (.v (.slc 1 (.t 17) none (some (.t 19))))⟩, ⟨(some 21), none, (.v (.mv (.t 1)))⟩, ⟨(some 22), none, (.e (.appz (b + 22) 4 1 1 [(.bool false)] (.t 20) (.t 21)))⟩, ⟨(some 23), none, (.v (.mv (.t 0)))⟩, ⟨(some 24), none, (.v (.len (.t 23)))⟩, ⟨(some 25), none, (.v (.slc 1 (.t 22) none (some (.t 24))))⟩, ⟨(some 0), none, (.v (.mv (.t 25)))⟩]) .skip))) (.seq (.ops [⟨(some 26), none, (.v (.mv (.t 0)))⟩, ⟨(some 4), none, (.v (.mv (.t 26)))⟩]) .ret))))
def q130 : List AI := [(.mv (.t 4))]
theorem g130 (b : Nat) : Fn PP 130 2 (b130 b) q130 := Fn.ofB b (fn := Go.Proofs.Try.f130) (by kernel_rfl) (by kernel_rfl) (by kernel_rfl)
def a92_0 : AC := (.seq (.ops [⟨(some 12), none, (.v (.bin .lss (.t 11) (.t 10)))⟩]) (.seq (.cond (.t 12) .skip (.exit 0)) (.seq (.block 1 (.seq (.ops [⟨(some 13), none, (.v (.idx 1 (.t 9) (.t 11)))⟩, ⟨(some 14), none, (.v (.load 1 false (.t 13)))⟩, ⟨(some 5), none, (.v (.mv (.t 14)))⟩]) (.seq (.ops [⟨(some 15), none, (.v (.mv (.t 3)))⟩, ⟨(some 16), none, (.v (.mv (.t 5)))⟩, ⟨(some 17), none, (.v (.len (.t 16)))⟩, ⟨(some 18), none, (.v (.bin .add (.t 15) (.t 17)))⟩, ⟨(some 3), none, (.v (.mv (.t 18)))⟩]) (.seq (.ops [⟨(some 19), none, (.v (.mv (.t 3)))⟩, ⟨(some 20), none, (.v (.bin .lss (.t 19) (.c (.int .i64 0))))⟩]) (.cond (.t 20) (.ops [⟨(some 21), none, .bad⟩, ⟨none, none, .bad⟩]) .skip))))) (.ops [⟨(some 22), none, (.v (.bin .add (.t 11) (.c (.int .i64 1))))⟩, ⟨(some 11), none, (.v (.mv (.t 22)))⟩]))))
def a92_1 : AC := (.seq (.ops [⟨(some 28), none, (.v (.bin .lss (.t 27) (.t 26)))⟩]) (.seq (.cond (.t 28) .skip (.exit 2)) (.seq (.block 3 (.seq (.ops [⟨(some 29), none, (.v (.idx 1 (.t 25) (.t 27)))⟩, ⟨(some 30), none, (.v (.load 1 false (.t 29)))⟩, ⟨(some 8), none, (.v (.mv (.t 30)))⟩]) (.ops [⟨(some 31), none, (.v (.mv (.t 6)))⟩, ⟨(some 32), none, (.v (.mv (.t 8)))⟩, ⟨(some 33), none, (.e (.app 33 4 1 1 (.t 31) (.t 32)))⟩, ⟨(some 6), none, (.v (.mv (.t 33)))⟩]))) (.ops [⟨(some 34), none, (.v (.bin .add (.t 27) (.c (.int .i64 1))))⟩, ⟨(some 27), none, (.v (.mv (.t 34)))⟩]))))
def a92 : AC := (.seq (.ops [⟨(some 2), none, (.v (.mv (.c .cap0)))⟩]) (.seq (.ops [⟨(some 3), none, (.v (.mv (.c (.int .i64 0))))⟩]) (.seq (.seq (.ops [⟨(some 9), none, (.v (.mv (.t 0)))⟩, ⟨(some 10), none, (.v (.len (.t 9)))⟩, ⟨(some 11), none, (.v (.mv (.c (.int .i64 0))))⟩]) (.block 0 (.loop a92_0))) (.seq (.ops [⟨(some 23), none, (.v (.mv (.t 3)))⟩, ⟨(some 24), none, (.call (.c (.fn 130 [])) [(.c .cap0), (.t 23)])⟩, ⟨(some 6), none, (.v (.mv (.t 24)))⟩]) (.seq (.seq (.ops [⟨(some 25), none, (.v (.mv (.t 0)))⟩, ⟨(some 26), none, (.v (.len (.t 25)))⟩, ⟨(some 27), none, (.v (.mv (.c (.int .i64 0))))⟩]) (.block 2 (.loop a92_1))) (.seq (.ops [⟨(some 35), none, (.v (.mv (.t 6)))⟩, ⟨(some 2), none, (.v (.mv (.t 35)))⟩]) .ret))))))
def r92 : List AI := [(.mv (.t 2))]
theorem f92 : Fn PP 92 1 a92 r92 := Fn.of (fn := Go.Proofs.Try.f92) (by kernel_rfl) (by kernel_rfl) (by kernel_rfl)
theorem p130 (b : Nat) (mem : Mem) (n : Nat) (hn : n ≤ 4194304) : CallW PP 130 [.cap0, .int .i64 n] mem fun r m => Keeps b mem m ∧ ((n = 0 ∧ r = .cap0) ∨ ∃ ver f, r = .sl (b + 22) ver 0 ∧ m (b + 22) = .row ver 4 1 n f) := by
  refine Fn.call fmix (g130 b) ?_
  unfold b130 q130
  simp -implicitDefEqProofs only [vqa, Nat.reduceEqDiff, Nat.reduceAdd, reduceIte, Nat.reduceLeDiff, Nat.reduceBEq, Nat.reduceLT, Nat.reduceSub, Int.reduceLT, Int.reduceLE, Int.reduceEq, Int.reduceToNat, Nat.reduceMul, eq_self, implies_true, forall_const]
  rw [wI (n := (0 : Int) - 0) (by omega) (by omega), wI (n := (n : Int) - (0 - 0)) (by omega) (by omega)]
  simp -implicitDefEqProofs only [vqa, Nat.reduceEqDiff, Nat.reduceAdd, reduceIte, Nat.reduceLeDiff, Nat.reduceBEq, Nat.reduceLT, Nat.reduceSub, Int.reduceLT, Int.reduceLE, Int.reduceEq, Int.reduceToNat, Nat.reduceMul, eq_self, implies_true, forall_const, Int.sub_zero]
  refine ⟨fun h => absurd h (by omega), fun _ => ⟨fun h => ?_, fun h => ?_⟩⟩
  · exact ⟨by omega, by omega, .inr ⟨_, _, rfl, rfl⟩⟩
  · exact .inl (by omega)

/-- The lists f 0 .. f (k-1), of n 0 .. n (k-1) truths. -/
theorem p92 (k : Nat) (n : Nat → Nat) (f : Nat → Nat → AV) (q : Nat → AV) (hq : ∀ i, i < k → q i = .fs (n i) (f i)) (hf : ∀ i, i < k → ∀ j, j < n i → (f i j).cells.length = 1 ∧ (f i j).cells.all AV.isCell = true) (hn : pre n k ≤ 4194304) (hk : k ≤ 1048576) :
    CallW PP 92 [.fs k q] mem0 fun r m => (r = .cap0 ∧ pre n k = 0) ∨ ∃ id ver e sz n' g, r = .sl id ver n' ∧ m id = .row ver e sz n' g ∧ (n' = pre n k ∧ e = 4 ∧ sz = 1 ∧ ∀ i, i < pre n k → g i = cat n f k i) := by
  refine Fn.call fmix f92 ?_
  unfold a92 r92
  simp -implicitDefEqProofs only [vqa, Nat.reduceEqDiff, Nat.reduceAdd, reduceIte, Nat.reduceLeDiff, Nat.reduceBEq, Nat.reduceLT, Nat.reduceSub, Int.reduceLT, Int.reduceLE, Int.reduceEq, Int.reduceToNat, Nat.reduceMul, eq_self, implies_true, forall_const]
  refine vFor k (fun i e m => m = mem0 ∧ e 0 = .fs k q ∧ e 9 = .fs k q ∧ e 10 = .int .i64 k ∧ e 11 = .int .i64 i ∧ e 3 = .int .i64 (pre n i : Nat)) ?_ ?_ ?_
  · simp -implicitDefEqProofs only [vqa, Nat.reduceEqDiff, Nat.reduceAdd, reduceIte, Nat.reduceLeDiff, Nat.reduceBEq, Nat.reduceLT, Nat.reduceSub, Int.reduceLT, Int.reduceLE, Int.reduceEq, Int.reduceToNat, Nat.reduceMul, eq_self, implies_true, forall_const]
    rfl
  · rintro i e m hi hi' ⟨rfl, h0, h9, h10, h11, h3⟩
    have hle := pre_le n (i := i + 1) k hi
    have hp : pre n (i + 1) = pre n i + n i := rfl
    unfold a92_0
    simp -implicitDefEqProofs only [vqa, Nat.reduceEqDiff, Nat.reduceAdd, reduceIte, Nat.reduceLeDiff, Nat.reduceBEq, Nat.reduceLT, Nat.reduceSub, Int.reduceLT, Int.reduceLE, Int.reduceEq, Int.reduceToNat, Nat.reduceMul, eq_self, implies_true, forall_const, h0, h9, h10, h11, h3, hi', hq i hi]
    rw [wI (n := ((pre n i : Nat) : Int) + (n i : Nat)) (by omega) (by omega)]
    refine ⟨by omega, fun h => absurd h (by omega), fun _ => ⟨hi, wI (by omega) (by omega), by rw [hp]; rfl⟩⟩
  · rintro e m ⟨rfl, h0, h9, h10, h11, h3⟩
    unfold a92_0
    simp -implicitDefEqProofs only [vqa, Nat.reduceEqDiff, Nat.reduceAdd, reduceIte, Nat.reduceLeDiff, Nat.reduceBEq, Nat.reduceLT, Nat.reduceSub, Int.reduceLT, Int.reduceLE, Int.reduceEq, Int.reduceToNat, Nat.reduceMul, eq_self, implies_true, forall_const, h0, h9, h10, h11, h3]
    refine (p130 1000 mem0 (pre n k) hn).mono fun r m ⟨hk1, hr⟩ => ?_
    have hr' : (pre n k = 0 ∧ r = .cap0) ∨ ∃ ver f, r = .sl 1022 ver 0 ∧ m 1022 = .row ver 4 1 (pre n k) f := by
      rcases hr with h | ⟨ver, f, h1, h2⟩
      · exact .inl h
      · exact .inr ⟨ver, f, h1, h2⟩
    simp -implicitDefEqProofs only [vqa, Nat.reduceEqDiff, Nat.reduceAdd, reduceIte, Nat.reduceLeDiff, Nat.reduceBEq, Nat.reduceLT, Nat.reduceSub, Int.reduceLT, Int.reduceLE, Int.reduceEq, Int.reduceToNat, Nat.reduceMul, eq_self, implies_true, forall_const, h0]
    refine vFor k (fun i e m => e 25 = .fs k q ∧ e 26 = .int .i64 k ∧ e 27 = .int .i64 i ∧ ((pre n k = 0 ∧ e 6 = .cap0) ∨ ∃ ver n' g, e 6 = .sl 1022 ver (pre n i) ∧ (n' = pre n i ∨ (i = 0 ∧ n' = pre n k)) ∧ m 1022 = .row ver 4 1 n' g ∧ ∀ j, j < pre n i → g j = cat n f i j)) ?_ ?_ ?_
    · simp -implicitDefEqProofs only [vqa, Nat.reduceEqDiff, Nat.reduceAdd, reduceIte, Nat.reduceLeDiff, Nat.reduceBEq, Nat.reduceLT, Nat.reduceSub, Int.reduceLT, Int.reduceLE, Int.reduceEq, Int.reduceToNat, Nat.reduceMul, eq_self, implies_true, forall_const]
      rcases hr' with h | ⟨ver, f, h1, h2⟩
      · exact .inl h
      · exact .inr ⟨ver, _, f, h1, .inr rfl, h2, fun j hj => absurd hj (Nat.not_lt_zero _)⟩
    · rintro i e m hi hi' ⟨h25, h26, h27, hA⟩
      have hle := pre_le n (i := i + 1) k hi
      have hp : pre n (i + 1) = pre n i + n i := rfl
      unfold a92_1
      rcases hA with ⟨hz, h6⟩ | ⟨ver, n', g, h6, hn', hm, hg⟩
      · have hni : n i = 0 := by omega
        simp -implicitDefEqProofs only [vqa, Nat.reduceEqDiff, Nat.reduceAdd, reduceIte, Nat.reduceLeDiff, Nat.reduceBEq, Nat.reduceLT, Nat.reduceSub, Int.reduceLT, Int.reduceLE, Int.reduceEq, Int.reduceToNat, Nat.reduceMul, eq_self, implies_true, forall_const, h25, h26, h27, h6, hi', hq i hi, hni]
        exact ⟨by omega, hi, wI (by omega) (by omega), .inl hz⟩
      · simp -implicitDefEqProofs only [vqa, Nat.reduceEqDiff, Nat.reduceAdd, reduceIte, Nat.reduceLeDiff, Nat.reduceBEq, Nat.reduceLT, Nat.reduceSub, Int.reduceLT, Int.reduceLE, Int.reduceEq, Int.reduceToNat, Nat.reduceMul, eq_self, implies_true, forall_const, h25, h26, h27, h6, hm, hi', hq i hi]
        have hle0 := pre_le n (i := i) k (by omega)
        refine ⟨by omega, ⟨fun j hj => hf i hi j hj, by omega, by omega, by omega⟩, hi, wI (by omega) (by omega), .inr ⟨_, _, _, rfl, .inl rfl, rfl, fun j hj => ?_⟩⟩
        simp only [cat]
        by_cases h : j < pre n i
        · simp only [h, decide_true, cond_true, if_true]; exact hg j h
        · simp only [h, decide_false, cond_false, if_false]
    · rintro e m ⟨h25, h26, h27, hA⟩
      unfold a92_1
      rcases hA with ⟨hz, h6⟩ | ⟨ver, n', g, h6, hn', hm, hg⟩
      · simp -implicitDefEqProofs only [vqa, Nat.reduceEqDiff, Nat.reduceAdd, reduceIte, Nat.reduceLeDiff, Nat.reduceBEq, Nat.reduceLT, Nat.reduceSub, Int.reduceLT, Int.reduceLE, Int.reduceEq, Int.reduceToNat, Nat.reduceMul, eq_self, implies_true, forall_const, h25, h26, h27, h6]
        exact .inl hz
      · simp -implicitDefEqProofs only [vqa, Nat.reduceEqDiff, Nat.reduceAdd, reduceIte, Nat.reduceLeDiff, Nat.reduceBEq, Nat.reduceLT, Nat.reduceSub, Int.reduceLT, Int.reduceLE, Int.reduceEq, Int.reduceToNat, Nat.reduceMul, eq_self, implies_true, forall_const, h25, h26, h27, h6, hm]
        have hn2 : n' = pre n k := by
          rcases hn' with h | ⟨h, h2⟩
          · exact h
          · exact h2
        subst hn2
        exact .inr ⟨_, _, _, _, _, _, rfl, hm, rfl, rfl, rfl, hg⟩
end Go.Ab
