/- Walks: Move, Flip, Index of whole numbers. -/
import Derived.Test.YtiecnmojbdogfaaSaCut3
import Derived.Test.YtiecnmojbdogfaaLwCutM
set_option linter.unusedSimpArgs false
set_option linter.unusedVariables false
namespace Go.Ab
open Go
def a17_0 : AC := (.seq (.ops [⟨(some 28), none, (.v (.bin .lss (.t 27) (.t 26)))⟩]) (.seq (.cond (.t 28) .skip (.exit 0)) (.seq (.block 1 (.seq (.ops [⟨(some 29), none, (.v (.mv (.t 27)))⟩, ⟨(some 30), none, (.v (.idx 1 (.t 25) (.t 27)))⟩, ⟨(some 31), none, (.v (.load 1 false (.t 30)))⟩, ⟨(some 7), none, (.v (.mv (.t 29)))⟩, ⟨(some 8), none, (.v (.mv (.t 31)))⟩]) (.seq (.ops [⟨(some 32), none, (.v (.mv (.t 8)))⟩, ⟨(some 33), none, (.v (.bin .lss (.t 32) (.c (.int .i64 0))))⟩, ⟨(some 34), none, (.v (.mv (.t 33)))⟩, ⟨(some 35), (some (34, false)), (.v (.mv (.t 8)))⟩, ⟨(some 36), (some (34, false)), (.v (.mv (.t 2)))⟩, ⟨(some 37), (some (34, false)), (.v (.bin .geq (.t 35) (.t 36)))⟩, ⟨(some 38), none, (.v (.pick (.t 34) (.c (.bool true)) (.t 37)))⟩, ⟨(some 39), none, (.v (.mv (.t 38)))⟩, ⟨(some 40), (some (39, false)), (.v (.mv (.t 1)))⟩, ⟨(some 41), (some (39, false)), (.v (.mv (.t 7)))⟩, ⟨(some 42), (some (39, false)), (.v (.slc 1 (.t 40) none (some (.t 41))))⟩, ⟨(some 43), (some (39, false)), (.v (.mv (.t 8)))⟩, ⟨(some 44), (some (39, false)), (.call (.c (.fn 36 [])) [(.t 42), (.t 43)])⟩, ⟨(some 45), none, (.v (.pick (.t 39) (.c (.bool true)) (.t 44)))⟩]) (.cond (.t 45) (.seq (.ops [⟨(some 6), none, (.v (.mv (.c (.int .u64 0))))⟩]) .ret) .skip)))) (.ops [⟨(some 46), none, (.v (.bin .add (.t 27) (.c (.int .i64 1))))⟩, ⟨(some 27), none, (.v (.mv (.t 46)))⟩]))))
def a17_2 : AC := (.seq (.ops [⟨(some 55), none, (.v (.bin .lss (.t 54) (.t 53)))⟩]) (.seq (.cond (.t 55) .skip (.exit 4)) (.seq (.block 5 (.seq (.ops [⟨(some 56), none, (.v (.mv (.t 54)))⟩, ⟨(some 57), none, (.v (.idx 1 (.t 52) (.t 54)))⟩, ⟨(some 58), none, (.v (.load 1 false (.t 57)))⟩, ⟨(some 12), none, (.v (.mv (.t 56)))⟩, ⟨(some 13), none, (.v (.mv (.t 58)))⟩]) (.ops [⟨(some 59), none, (.v (.mv (.t 11)))⟩, ⟨(some 60), none, (.v (.mv (.t 10)))⟩, ⟨(some 61), none, (.v (.mv (.t 13)))⟩, ⟨(some 62), none, (.v (.bin .shr (.t 60) (.t 61)))⟩, ⟨(some 63), none, (.v (.bin .and (.t 62) (.c (.int .i64 1))))⟩, ⟨(some 64), none, (.v (.mv (.t 12)))⟩, ⟨(some 65), none, (.v (.bin .shl (.t 63) (.t 64)))⟩, ⟨(some 66), none, (.v (.bin .or (.t 59) (.t 65)))⟩, ⟨(some 11), none, (.v (.mv (.t 66)))⟩]))) (.ops [⟨(some 67), none, (.v (.bin .add (.t 54) (.c (.int .i64 1))))⟩, ⟨(some 54), none, (.v (.mv (.t 67)))⟩]))))
def a17_1 : AC := (.seq (.ops [⟨(some 50), none, (.v (.bin .lss (.t 49) (.t 48)))⟩]) (.seq (.cond (.t 50) .skip (.exit 2)) (.seq (.block 3 (.seq (.ops [⟨(some 51), none, (.v (.mv (.t 49)))⟩, ⟨(some 10), none, (.v (.mv (.t 51)))⟩]) (.seq (.ops [⟨(some 11), none, (.v (.mv (.c (.int .i64 0))))⟩]) (.seq (.seq (.ops [⟨(some 52), none, (.v (.mv (.t 1)))⟩, ⟨(some 53), none, (.v (.len (.t 52)))⟩, ⟨(some 54), none, (.v (.mv (.c (.int .i64 0))))⟩]) (.block 4 (.loop a17_2))) (.ops [⟨(some 68), none, (.v (.mv (.t 9)))⟩, ⟨(some 69), none, (.v (.mv (.t 0)))⟩, ⟨(some 70), none, (.v (.mv (.t 11)))⟩, ⟨(some 71), none, (.v (.bin .shr (.t 69) (.t 70)))⟩, ⟨(some 72), none, (.v (.bin .and (.t 71) (.c (.int .u64 1))))⟩, ⟨(some 73), none, (.v (.mv (.t 10)))⟩, ⟨(some 74), none, (.v (.bin .shl (.t 72) (.t 73)))⟩, ⟨(some 75), none, (.v (.bin .or (.t 68) (.t 74)))⟩, ⟨(some 9), none, (.v (.mv (.t 75)))⟩]))))) (.ops [⟨(some 76), none, (.v (.bin .add (.t 49) (.c (.int .i64 1))))⟩, ⟨(some 49), none, (.v (.mv (.t 76)))⟩]))))
def a17 : AC := (.seq (.ops [⟨(some 6), none, (.v (.mv (.c (.int .u64 0))))⟩]) (.seq (.seq (.ops [⟨(some 14), none, (.v (.mv (.t 1)))⟩, ⟨(some 15), none, (.v (.len (.t 14)))⟩, ⟨(some 16), none, (.v (.bin .gtr (.t 15) (.c (.int .i64 6))))⟩, ⟨(some 17), none, (.v (.mv (.t 16)))⟩, ⟨(some 18), (some (17, false)), (.v (.mv (.t 2)))⟩, ⟨(some 19), (some (17, false)), (.v (.bin .lss (.t 18) (.c (.int .i64 0))))⟩, ⟨(some 20), none, (.v (.pick (.t 17) (.c (.bool true)) (.t 19)))⟩, ⟨(some 21), none, (.v (.mv (.t 20)))⟩, ⟨(some 22), (some (21, false)), (.v (.mv (.t 2)))⟩, ⟨(some 23), (some (21, false)), (.v (.bin .gtr (.t 22) (.c (.int .i64 6))))⟩, ⟨(some 24), none, (.v (.pick (.t 21) (.c (.bool true)) (.t 23)))⟩]) (.cond (.t 24) (.seq (.ops [⟨(some 6), none, (.v (.mv (.c (.int .u64 0))))⟩]) .ret) .skip)) (.seq (.seq (.ops [⟨(some 25), none, (.v (.mv (.t 1)))⟩, ⟨(some 26), none, (.v (.len (.t 25)))⟩, ⟨(some 27), none, (.v (.mv (.c (.int .i64 0))))⟩]) (.block 0 (.loop a17_0))) (.seq (.ops [⟨(some 9), none, (.v (.mv (.c (.int .u64 0))))⟩]) (.seq (.seq (.ops [⟨(some 47), none, (.v (.mv (.t 2)))⟩, ⟨(some 48), none, (.v (.bin .shl (.c (.int .i64 1)) (.t 47)))⟩, ⟨(some 49), none, (.v (.mv (.c (.int .i64 0))))⟩]) (.block 2 (.loop a17_1))) (.seq (.ops [⟨(some 77), none, (.v (.mv (.t 9)))⟩, ⟨(some 6), none, (.v (.mv (.t 77)))⟩]) .ret))))))
def r17 : List AI := [(.mv (.t 6))]
theorem f17 : Fn PP 17 3 a17 r17 := Fn.of (fn := Go.Proofs.Try.f17) (by kernel_rfl) (by kernel_rfl) (by kernel_rfl)
def a19_0 : AC := (.seq (.ops [⟨(some 28), none, (.v (.bin .lss (.t 27) (.t 26)))⟩]) (.seq (.cond (.t 28) .skip (.exit 0)) (.seq (.block 1 (.seq (.ops [⟨(some 29), none, (.v (.mv (.t 27)))⟩, ⟨(some 8), none, (.v (.mv (.t 29)))⟩]) (.ops [⟨(some 30), none, (.v (.mv (.t 7)))⟩, ⟨(some 31), none, (.v (.mv (.t 0)))⟩, ⟨(some 32), none, (.v (.mv (.t 8)))⟩, ⟨(some 33), none, (.v (.mv (.t 1)))⟩, ⟨(some 34), none, (.v (.bin .xor (.t 32) (.t 33)))⟩, ⟨(some 35), none, (.v (.bin .shr (.t 31) (.t 34)))⟩, ⟨(some 36), none, (.v (.bin .and (.t 35) (.c (.int .u64 1))))⟩, ⟨(some 37), none, (.v (.mv (.t 8)))⟩, ⟨(some 38), none, (.v (.bin .shl (.t 36) (.t 37)))⟩, ⟨(some 39), none, (.v (.bin .or (.t 30) (.t 38)))⟩, ⟨(some 7), none, (.v (.mv (.t 39)))⟩]))) (.ops [⟨(some 40), none, (.v (.bin .add (.t 27) (.c (.int .i64 1))))⟩, ⟨(some 27), none, (.v (.mv (.t 40)))⟩]))))
def a19 : AC := (.seq (.ops [⟨(some 6), none, (.v (.mv (.c (.int .u64 0))))⟩]) (.seq (.seq (.ops [⟨(some 9), none, (.v (.mv (.t 2)))⟩, ⟨(some 10), none, (.v (.bin .lss (.t 9) (.c (.int .i64 0))))⟩, ⟨(some 11), none, (.v (.mv (.t 10)))⟩, ⟨(some 12), (some (11, false)), (.v (.mv (.t 2)))⟩, ⟨(some 13), (some (11, false)), (.v (.bin .gtr (.t 12) (.c (.int .i64 6))))⟩, ⟨(some 14), none, (.v (.pick (.t 11) (.c (.bool true)) (.t 13)))⟩, ⟨(some 15), none, (.v (.mv (.t 14)))⟩, ⟨(some 16), (some (15, false)), (.v (.mv (.t 1)))⟩, ⟨(some 17), (some (15, false)), (.v (.bin .lss (.t 16) (.c (.int .i64 0))))⟩, ⟨(some 18), none, (.v (.pick (.t 15) (.c (.bool true)) (.t 17)))⟩, ⟨(some 19), none, (.v (.mv (.t 18)))⟩, ⟨(some 20), (some (19, false)), (.v (.mv (.t 1)))⟩, ⟨(some 21), (some (19, false)), (.v (.mv (.t 2)))⟩, ⟨(some 22), (some (19, false)), (.v (.bin .shl (.c (.int .i64 1)) (.t 21)))⟩, ⟨(some 23), (some (19, false)), (.v (.bin .geq (.t 20) (.t 22)))⟩, ⟨(some 24), none, (.v (.pick (.t 19) (.c (.bool true)) (.t 23)))⟩]) (.cond (.t 24) (.seq (.ops [⟨(some 6), none, (.v (.mv (.c (.int .u64 0))))⟩]) .ret) .skip)) (.seq (.ops [⟨(some 7), none, (.v (.mv (.c (.int .u64 0))))⟩]) (.seq (.seq (.ops [⟨(some 25), none, (.v (.mv (.t 2)))⟩, ⟨(some 26), none, (.v (.bin .shl (.c (.int .i64 1)) (.t 25)))⟩, ⟨(some 27), none, (.v (.mv (.c (.int .i64 0))))⟩]) (.block 0 (.loop a19_0))) (.seq (.ops [⟨(some 41), none, (.v (.mv (.t 7)))⟩, ⟨(some 6), none, (.v (.mv (.t 41)))⟩]) .ret)))))
def r19 : List AI := [(.mv (.t 6))]
theorem f19 : Fn PP 19 3 a19 r19 := Fn.of (fn := Go.Proofs.Try.f19) (by kernel_rfl) (by kernel_rfl) (by kernel_rfl)
theorem p17 (t n : Int) (l : Nat) (x : Nat → Int) (f : Nat → AV) (ht : U64 t) (hf : ∀ i, i < l → f i = .int .i64 (x i)) (hl : l ≤ 1048576) : Pure PP 17 [.int .u64 t, .fs l f, .int .i64 n] fun r => ∃ s, r = .int .u64 s ∧ MovT t s x l n := by
  refine Fn.pure fmix f17 ?_
  unfold a17 r17
  simp -implicitDefEqProofs only [vqa, Nat.reduceEqDiff, Nat.reduceAdd, reduceIte, Nat.reduceLeDiff, Nat.reduceBEq, Nat.reduceLT, Nat.reduceSub, Int.reduceLT, Int.reduceLE, Int.reduceEq, Int.reduceToNat, Nat.reduceMul, eq_self, implies_true, forall_const]
  have no : ¬ MvOk x l n → MovT t 0 x l n := fun h => ⟨⟨by decide, by decide⟩, fun _ => rfl, fun k => absurd k h⟩
  have nz : (∃ i, i < l ∧ MvB x n i) → ∃ s, 0 = s ∧ MovT t s x l n := fun ⟨i, hi, h⟩ => ⟨0, rfl, no fun q => q.2.2.2 i hi h⟩
  refine ⟨fun c1 => ⟨fun c2 => ⟨fun c3 => ⟨0, rfl, no fun q => by have := q.2.1; omega⟩, fun c3 => ?_⟩, fun c2 => ⟨0, rfl, no fun q => by have := q.1; omega⟩⟩, fun c1 => ⟨0, rfl, no fun q => by have := q.2.2.1; omega⟩⟩
  obtain ⟨N, rfl⟩ : ∃ N : Nat, n = (N : Int) := ⟨n.toNat, by omega⟩
  have hN : N ≤ 6 := by omega
  have hs := shl_one (show N < 7 by omega)
  have h64 : 2 ^ N ≤ 64 := by
    have := Nat.pow_le_pow_right (n := 2) (by decide) hN
    simpa using this
  refine vFor l (fun i e m => e 0 = .int .u64 t ∧ e 1 = .fs l f ∧ e 2 = .int .i64 N ∧ e 25 = .fs l f ∧ e 26 = .int .i64 l ∧ e 27 = .int .i64 i ∧ ∀ j, j < i → ¬ MvB x N j) ?_ ?_ ?_
  · simp -implicitDefEqProofs only [vqa, Nat.reduceEqDiff, Nat.reduceAdd, reduceIte, Nat.reduceLeDiff, Nat.reduceBEq, Nat.reduceLT, Nat.reduceSub, Int.reduceLT, Int.reduceLE, Int.reduceEq, Int.reduceToNat, Nat.reduceMul, eq_self, implies_true, forall_const]
  · rintro i e m hi hi' ⟨h0, h1, h2, h25, h26, h27, hg⟩
    unfold a17_0
    simp -implicitDefEqProofs only [vqa, Nat.reduceEqDiff, Nat.reduceAdd, reduceIte, Nat.reduceLeDiff, Nat.reduceBEq, Nat.reduceLT, Nat.reduceSub, Int.reduceLT, Int.reduceLE, Int.reduceEq, Int.reduceToNat, Nat.reduceMul, eq_self, implies_true, forall_const, h0, h1, h2, h25, h26, h27, hi', hf i hi]
    refine ⟨by omega, fun d1 => ⟨fun d2 => ?_, fun d2 => nz ⟨i, hi, .inr (.inl d2)⟩⟩, fun d1 => nz ⟨i, hi, .inl d1⟩⟩
    refine ⟨⟨by omega, by omega, fun _ => by rw [hf 0 (by omega)]; rfl⟩, ?_⟩
    have hin : ((i : Int) - 0).toNat = i := by omega
    rw [hin]
    refine CallW.sc (p36 i x f (x i) (fun q hq => hf q (by omega)) (by omega)) rfl ⟨trivial, trivial, trivial⟩ fun r ⟨b, hr, hb⟩ => ⟨by subst hr; rfl, ?_⟩
    subst hr
    cases b with
    | true =>
      simp -implicitDefEqProofs only [vqa, Nat.reduceEqDiff, Nat.reduceAdd, reduceIte, Nat.reduceLeDiff, Nat.reduceBEq, Nat.reduceLT, Nat.reduceSub, Int.reduceLT, Int.reduceLE, Int.reduceEq, Int.reduceToNat, Nat.reduceMul, eq_self, implies_true, forall_const, h0, h1, h2, h25, h26, h27]
      exact nz ⟨i, hi, .inr (.inr (hb.1 rfl))⟩
    | false =>
      simp -implicitDefEqProofs only [vqa, Nat.reduceEqDiff, Nat.reduceAdd, reduceIte, Nat.reduceLeDiff, Nat.reduceBEq, Nat.reduceLT, Nat.reduceSub, Int.reduceLT, Int.reduceLE, Int.reduceEq, Int.reduceToNat, Nat.reduceMul, eq_self, implies_true, forall_const, h0, h1, h2, h25, h26, h27]
      refine ⟨hi, wI (by omega) (by omega), fun j hj => ?_⟩
      by_cases e : j = i
      · subst e
        rintro (h | h | h)
        · exact d1 h
        · exact d2 h
        · exact Bool.noConfusion (hb.2 h)
      · exact hg j (by omega)
  · rintro e m ⟨h0, h1, h2, h25, h26, h27, hg⟩
    unfold a17_0
    simp -implicitDefEqProofs only [vqa, Nat.reduceEqDiff, Nat.reduceAdd, reduceIte, Nat.reduceLeDiff, Nat.reduceBEq, Nat.reduceLT, Nat.reduceSub, Int.reduceLT, Int.reduceLE, Int.reduceEq, Int.reduceToNat, Nat.reduceMul, eq_self, implies_true, forall_const, h0, h1, h2, h25, h26, h27, hs]
    refine ⟨by omega, ?_⟩
    have hok : MvOk x l (N : Int) := ⟨by omega, by omega, by omega, hg⟩
    have hx : ∀ i, i < l → 0 ≤ x i ∧ (x i).toNat < 6 := fun i hi => by
      have h1 := hg i hi
      unfold MvB at h1
      omega
    refine vFor (2 ^ N) (fun k e m => e 0 = .int .u64 t ∧ e 1 = .fs l f ∧ e 48 = .int .i64 ((2 ^ N : Nat) : Int) ∧ e 49 = .int .i64 k ∧ ∃ s, e 9 = .int .u64 s ∧ U64 s ∧ ∀ q, q < 64 → bit s q = (decide (q < k) && bit t (rowB (fun i => q.testBit (x i).toNat) l))) ?_ ?_ ?_
    · simp -implicitDefEqProofs only [vqa, Nat.reduceEqDiff, Nat.reduceAdd, reduceIte, Nat.reduceLeDiff, Nat.reduceBEq, Nat.reduceLT, Nat.reduceSub, Int.reduceLT, Int.reduceLE, Int.reduceEq, Int.reduceToNat, Nat.reduceMul, eq_self, implies_true, forall_const, h0, h1]
      exact ⟨0, rfl, ⟨by decide, by decide⟩, fun q _ => bit_zero q⟩
    · rintro k e m hk hk' ⟨h0, h1, h48, h49, s, h9, hsU, hsb⟩
      unfold a17_1
      simp -implicitDefEqProofs only [vqa, Nat.reduceEqDiff, Nat.reduceAdd, reduceIte, Nat.reduceLeDiff, Nat.reduceBEq, Nat.reduceLT, Nat.reduceSub, Int.reduceLT, Int.reduceLE, Int.reduceEq, Int.reduceToNat, Nat.reduceMul, eq_self, implies_true, forall_const, h0, h1, h48, h49, h9, hk']
      refine vFor l (fun i e m => e 0 = .int .u64 t ∧ e 1 = .fs l f ∧ e 9 = .int .u64 s ∧ e 10 = .int .i64 k ∧ e 11 = .int .i64 (rowB (fun q => k.testBit (x q).toNat) i : Nat) ∧ e 48 = .int .i64 ((2 ^ N : Nat) : Int) ∧ e 49 = .int .i64 k ∧ e 52 = .fs l f ∧ e 53 = .int .i64 l ∧ e 54 = .int .i64 i) ?_ ?_ ?_
      · simp -implicitDefEqProofs only [vqa, Nat.reduceEqDiff, Nat.reduceAdd, reduceIte, Nat.reduceLeDiff, Nat.reduceBEq, Nat.reduceLT, Nat.reduceSub, Int.reduceLT, Int.reduceLE, Int.reduceEq, Int.reduceToNat, Nat.reduceMul, eq_self, implies_true, forall_const, h0, h1, h48, h49, h9]
        rfl
      · rintro i e m hi hi' ⟨h0, h1, h9, h10, h11, h48, h49, h52, h53, h54⟩
        obtain ⟨hx0, hx6⟩ := hx i hi
        have hrl := rowB_lt (fun q => k.testBit (x q).toNat) i
        have h2i : 2 ^ i ≤ 64 := by
          have := Nat.pow_le_pow_right (n := 2) (by decide) (show i ≤ 6 by omega)
          simpa using this
        unfold a17_2
        simp -implicitDefEqProofs only [vqa, Nat.reduceEqDiff, Nat.reduceAdd, reduceIte, Nat.reduceLeDiff, Nat.reduceBEq, Nat.reduceLT, Nat.reduceSub, Int.reduceLT, Int.reduceLE, Int.reduceEq, Int.reduceToNat, Nat.reduceMul, eq_self, implies_true, forall_const, h0, h1, h9, h10, h11, h48, h49, h52, h53, h54, hi', hf i hi, and_bit k (show k < 64 by omega) (x i).toNat hx6]
        exact ⟨by omega, hx0, by omega, hi, row_step i (by omega) _ (by omega) hrl _, wI (by omega) (by omega)⟩
      · rintro e m ⟨h0, h1, h9, h10, h11, h48, h49, h52, h53, h54⟩
        have hrl := rowB_lt (fun q => k.testBit (x q).toNat) l
        unfold a17_2
        simp -implicitDefEqProofs only [vqa, Nat.reduceEqDiff, Nat.reduceAdd, reduceIte, Nat.reduceLeDiff, Nat.reduceBEq, Nat.reduceLT, Nat.reduceSub, Int.reduceLT, Int.reduceLE, Int.reduceEq, Int.reduceToNat, Nat.reduceMul, eq_self, implies_true, forall_const, h0, h1, h9, h10, h11, h48, h49, h52, h53, h54]
        have hr64 : rowB (fun q => k.testBit (x q).toNat) l < 64 := Nat.lt_of_lt_of_le hrl (by
          have := Nat.pow_le_pow_right (n := 2) (by decide) (show l ≤ 6 by omega)
          simpa using this)
        rw [and_u64 ht hr64]
        exact ⟨by omega, by omega, hk, wI (by omega) (by omega), _, rfl, u64_or _ _, put_bit (by omega) hsb rfl⟩
    · rintro e m ⟨h0, h1, h48, h49, s, h9, hsU, hsb⟩
      unfold a17_1
      simp -implicitDefEqProofs only [vqa, Nat.reduceEqDiff, Nat.reduceAdd, reduceIte, Nat.reduceLeDiff, Nat.reduceBEq, Nat.reduceLT, Nat.reduceSub, Int.reduceLT, Int.reduceLE, Int.reduceEq, Int.reduceToNat, Nat.reduceMul, eq_self, implies_true, forall_const, h0, h1, h48, h49, h9]
      exact ⟨s, rfl, hsU, fun h => absurd hok h, fun _ => hsb⟩
theorem p19 (t x n : Int) (ht : U64 t) : Pure PP 19 [.int .u64 t, .int .i64 x, .int .i64 n] fun r => ∃ s, r = .int .u64 s ∧ FlpT t s x n := by
  refine Fn.pure fmix f19 ?_
  unfold a19 r19
  simp -implicitDefEqProofs only [vqa, Nat.reduceEqDiff, Nat.reduceAdd, reduceIte, Nat.reduceLeDiff, Nat.reduceBEq, Nat.reduceLT, Nat.reduceSub, Int.reduceLT, Int.reduceLE, Int.reduceEq, Int.reduceToNat, Nat.reduceMul, eq_self, implies_true, forall_const]
  have no : ¬ FlpOk x n → ∃ s, 0 = s ∧ FlpT t s x n := fun h => ⟨0, rfl, ⟨by decide, by decide⟩, fun _ => rfl, fun k => absurd k h⟩
  refine ⟨fun c1 => ⟨fun c2 => ⟨fun c3 => ?_, fun c3 => no fun q => by have := q.2.2.1; omega⟩, fun c2 => no fun q => by have := q.2.1; omega⟩, fun c1 => no fun q => by have := q.1; omega⟩
  obtain ⟨N, rfl⟩ : ∃ N : Nat, n = (N : Int) := ⟨n.toNat, by omega⟩
  obtain ⟨X, rfl⟩ : ∃ X : Nat, x = (X : Int) := ⟨x.toNat, by omega⟩
  have hN : N ≤ 6 := by omega
  have hs := shl_one (show N < 7 by omega)
  have h64 : 2 ^ N ≤ 64 := by
    have := Nat.pow_le_pow_right (n := 2) (by decide) hN
    simpa using this
  rw [Int.toNat_natCast, hs]
  have c1' : (0 : Int) ≤ (N : Int) := by omega
  refine ⟨c1', fun c4 => no fun q => ?_, fun c4 => ⟨c1', ?_⟩⟩
  · have := q.2.2.2
    rw [Int.toNat_natCast] at this
    omega
  have hX : X < 2 ^ N := by omega
  have hok : FlpOk (X : Int) (N : Int) := ⟨by omega, by omega, by omega, by rw [Int.toNat_natCast]; omega⟩
  refine vFor (2 ^ N) (fun k e m => e 0 = .int .u64 t ∧ e 1 = .int .i64 X ∧ e 26 = .int .i64 ((2 ^ N : Nat) : Int) ∧ e 27 = .int .i64 k ∧ ∃ s, e 7 = .int .u64 s ∧ U64 s ∧ ∀ q, q < 64 → bit s q = (decide (q < k) && bit t (q ^^^ X))) ?_ ?_ ?_
  · simp -implicitDefEqProofs only [vqa, Nat.reduceEqDiff, Nat.reduceAdd, reduceIte, Nat.reduceLeDiff, Nat.reduceBEq, Nat.reduceLT, Nat.reduceSub, Int.reduceLT, Int.reduceLE, Int.reduceEq, Int.reduceToNat, Nat.reduceMul, eq_self, implies_true, forall_const]
    exact ⟨0, rfl, ⟨by decide, by decide⟩, fun q _ => bit_zero q⟩
  · rintro k e m hk hk' ⟨h0, h1, h26, h27, s, h7, hsU, hsb⟩
    obtain ⟨hx, hxl⟩ := xor_ii k (by omega) X (by omega)
    unfold a19_0
    simp -implicitDefEqProofs only [vqa, Nat.reduceEqDiff, Nat.reduceAdd, reduceIte, Nat.reduceLeDiff, Nat.reduceBEq, Nat.reduceLT, Nat.reduceSub, Int.reduceLT, Int.reduceLE, Int.reduceEq, Int.reduceToNat, Nat.reduceMul, eq_self, implies_true, forall_const, h0, h1, h26, h27, h7, hk', hx]
    rw [and_u64 ht hxl]
    exact ⟨by omega, by omega, hk, wI (by omega) (by omega), _, rfl, u64_or _ _, put_bit (by omega) hsb rfl⟩
  · rintro e m ⟨h0, h1, h26, h27, s, h7, hsU, hsb⟩
    unfold a19_0
    simp -implicitDefEqProofs only [vqa, Nat.reduceEqDiff, Nat.reduceAdd, reduceIte, Nat.reduceLeDiff, Nat.reduceBEq, Nat.reduceLT, Nat.reduceSub, Int.reduceLT, Int.reduceLE, Int.reduceEq, Int.reduceToNat, Nat.reduceMul, eq_self, implies_true, forall_const, h0, h1, h26, h27, h7]
    exact ⟨s, rfl, hsU, fun h => absurd hok h, fun _ => hsb⟩
end Go.Ab
