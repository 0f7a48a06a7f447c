/- The law CutMoves. -/
import Derived.Test.YtiecnmojbdogfaaSaCut5
import Derived.Test.YtiecnmojbdogfaaSaCutN
set_option linter.unusedSimpArgs false
set_option linter.unusedVariables false
namespace Go.Ab
open Go
def a4 : AC := (.seq (.ops [⟨(some 8), none, (.v (.mv (.c (.bool false))))⟩]) (.seq (.ops [⟨(some 9), none, (.call (.c (.fn 10 [])) [])⟩, ⟨(some 10), none, (.v (.mv (.t 9)))⟩, ⟨(some 11), (some (10, true)), (.v (.mv (.t 0)))⟩, ⟨(some 12), (some (10, true)), (.v (.mv (.t 1)))⟩, ⟨(some 13), (some (10, true)), (.v (.mv (.t 3)))⟩, ⟨(some 14), (some (10, true)), (.call (.c (.fn 17 [])) [(.t 11), (.t 12), (.t 13)])⟩, ⟨(some 15), (some (10, true)), (.v (.mv (.t 0)))⟩, ⟨(some 16), (some (10, true)), (.v (.mv (.t 1)))⟩, ⟨(some 17), (some (10, true)), (.v (.mv (.t 3)))⟩, ⟨(some 18), (some (10, true)), (.call (.c (.fn 18 [])) [(.t 15), (.t 16), (.t 17)])⟩, ⟨(some 19), (some (10, true)), (.v (.bin .eql (.t 14) (.t 18)))⟩, ⟨(some 20), none, (.v (.pick (.t 10) (.t 19) (.c (.bool false))))⟩, ⟨(some 21), none, (.v (.mv (.t 20)))⟩, ⟨(some 22), (some (21, true)), (.v (.mv (.t 0)))⟩, ⟨(some 23), (some (21, true)), (.v (.mv (.t 2)))⟩, ⟨(some 24), (some (21, true)), (.v (.mv (.t 3)))⟩, ⟨(some 25), (some (21, true)), (.call (.c (.fn 19 [])) [(.t 22), (.t 23), (.t 24)])⟩, ⟨(some 26), (some (21, true)), (.v (.mv (.t 0)))⟩, ⟨(some 27), (some (21, true)), (.v (.mv (.t 2)))⟩, ⟨(some 28), (some (21, true)), (.v (.mv (.t 3)))⟩, ⟨(some 29), (some (21, true)), (.call (.c (.fn 20 [])) [(.t 26), (.t 27), (.t 28)])⟩, ⟨(some 30), (some (21, true)), (.v (.bin .eql (.t 25) (.t 29)))⟩, ⟨(some 31), none, (.v (.pick (.t 21) (.t 30) (.c (.bool false))))⟩, ⟨(some 8), none, (.v (.mv (.t 31)))⟩]) .ret))
def r4 : List AI := [(.mv (.t 8))]
theorem f4 : Fn PP 4 4 a4 r4 := Fn.of (fn := Go.Proofs.Try.f4) (by kernel_rfl) (by kernel_rfl) (by kernel_rfl)
theorem p4 (t x n : Int) (l : Nat) (y : Nat → Int) (f : Nat → AV) (ht : U64 t) (hf : ∀ i, i < l → f i = .int .i64 (y i)) (hl : l ≤ 1048576) : Pure PP 4 [.int .u64 t, .fs l f, .int .i64 x, .int .i64 n] fun r => r = .bool true := by
  refine Fn.pure fmix f4 ?_
  unfold a4 r4
  simp -implicitDefEqProofs only [vqa, Nat.reduceEqDiff, Nat.reduceAdd, reduceIte, Nat.reduceLeDiff, Nat.reduceBEq, Nat.reduceLT, Nat.reduceSub, Int.reduceLT, Int.reduceLE, Int.reduceEq, Int.reduceToNat, Nat.reduceMul, eq_self, implies_true, forall_const]
  refine CallW.sc p10 rfl trivial fun r hr => ⟨by subst hr; rfl, ?_⟩
  subst hr
  simp -implicitDefEqProofs only [vqa, Nat.reduceEqDiff, Nat.reduceAdd, reduceIte, Nat.reduceLeDiff, Nat.reduceBEq, Nat.reduceLT, Nat.reduceSub, Int.reduceLT, Int.reduceLE, Int.reduceEq, Int.reduceToNat, Nat.reduceMul, eq_self, implies_true, forall_const]
  refine CallW.sc (p17 t n l y f ht hf hl) rfl ⟨trivial, trivial, trivial, trivial⟩ fun r ⟨s, hr, hs⟩ => ⟨by subst hr; rfl, ?_⟩
  subst hr
  simp -implicitDefEqProofs only [vqa, Nat.reduceEqDiff, Nat.reduceAdd, reduceIte, Nat.reduceLeDiff, Nat.reduceBEq, Nat.reduceLT, Nat.reduceSub, Int.reduceLT, Int.reduceLE, Int.reduceEq, Int.reduceToNat, Nat.reduceMul, eq_self, implies_true, forall_const]
  refine CallW.sc (p18 t n l y f ht hf hl) rfl ⟨trivial, trivial, trivial, trivial⟩ fun r ⟨s', hr, hs'⟩ => ⟨by subst hr; rfl, ?_⟩
  obtain rfl : s = s' := hs.eq hs'
  subst hr
  simp -implicitDefEqProofs only [vqa, Nat.reduceEqDiff, Nat.reduceAdd, reduceIte, Nat.reduceLeDiff, Nat.reduceBEq, Nat.reduceLT, Nat.reduceSub, Int.reduceLT, Int.reduceLE, Int.reduceEq, Int.reduceToNat, Nat.reduceMul, eq_self, implies_true, forall_const]
  refine CallW.sc (p19 t x n ht) rfl ⟨trivial, trivial, trivial, trivial⟩ fun r ⟨w, hr, hw⟩ => ⟨by subst hr; rfl, ?_⟩
  subst hr
  simp -implicitDefEqProofs only [vqa, Nat.reduceEqDiff, Nat.reduceAdd, reduceIte, Nat.reduceLeDiff, Nat.reduceBEq, Nat.reduceLT, Nat.reduceSub, Int.reduceLT, Int.reduceLE, Int.reduceEq, Int.reduceToNat, Nat.reduceMul, eq_self, implies_true, forall_const]
  refine CallW.sc (p20 t x n ht) rfl ⟨trivial, trivial, trivial, trivial⟩ fun r ⟨w', hr, hw'⟩ => ⟨by subst hr; rfl, ?_⟩
  obtain rfl : w = w' := hw.eq hw'
  subst hr
  simp -implicitDefEqProofs only [vqa, Nat.reduceEqDiff, Nat.reduceAdd, reduceIte, Nat.reduceLeDiff, Nat.reduceBEq, Nat.reduceLT, Nat.reduceSub, Int.reduceLT, Int.reduceLE, Int.reduceEq, Int.reduceToNat, Nat.reduceMul, eq_self, implies_true, forall_const]
end Go.Ab
