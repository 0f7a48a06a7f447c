/- The law NetlistGraphs. -/
import Derived.Test.YtodncnlnadgkhaaLwLevel
import Derived.Test.YtodncnlnadgkhaaLwGraph
import Derived.Test.YtodncnlnadgkhaaSaBase
import Derived.Test.YtodncnlnadgkhaaSaNGr
import Derived.Test.YtodncnlnadgkhaaSaValues
import Derived.Test.YtodncnlnadgkhaaSaGSheet
import Derived.Test.YtodncnlnadgkhaaSaWords
import Derived.Test.YtodncnlnadgkhaaSaGSame
import Derived.Test.YtodncnlnadgkhaaSaFault
import Derived.Test.YtodncnlnadgkhaaSaLook
import Derived.Test.YtodncnlnadgkhaaSaGNil
import Derived.Test.YtodncnlnadgkhaaSaGFau0
set_option linter.unusedSimpArgs false
set_option linter.unusedVariables false
namespace Go.Ab
open Go
def a113_0 : AC := (.seq (.ops [⟨(some 9), none, (.v (.bin .lss (.t 8) (.t 7)))⟩]) (.seq (.cond (.t 9) .skip (.exit 0)) (.seq (.block 1 (.seq (.ops [⟨(some 10), none, (.v (.mv (.t 8)))⟩, ⟨(some 6), none, (.v (.mv (.t 10)))⟩]) (.ops [⟨(some 11), none, (.v (.mv (.t 5)))⟩, ⟨(some 12), none, (.v (.mv (.t 0)))⟩, ⟨(some 13), none, (.v (.mv (.t 6)))⟩, ⟨(some 14), none, (.v (.bin .shr (.t 12) (.t 13)))⟩, ⟨(some 15), none, (.v (.bin .and (.t 14) (.c (.int .i64 1))))⟩, ⟨(some 16), none, (.v (.bin .eql (.t 15) (.c (.int .i64 1))))⟩, ⟨(some 17), none, (.e (.lit 17 4 1 1 [(.bool false)] [(0, (.t 16))]))⟩, ⟨(some 18), none, (.e (.app 18 4 1 1 (.t 11) (.t 17)))⟩, ⟨(some 5), none, (.v (.mv (.t 18)))⟩]))) (.ops [⟨(some 19), none, (.v (.bin .add (.t 8) (.c (.int .i64 1))))⟩, ⟨(some 8), none, (.v (.mv (.t 19)))⟩]))))
def a113 : AC := (.seq (.ops [⟨(some 4), none, (.v (.mv (.c .cap0)))⟩]) (.seq (.ops [⟨(some 5), none, (.v (.mv (.c .cap0)))⟩]) (.seq (.seq (.ops [⟨(some 7), none, (.v (.mv (.t 1)))⟩, ⟨(some 8), none, (.v (.mv (.c (.int .i64 0))))⟩]) (.block 0 (.loop a113_0))) (.seq (.ops [⟨(some 20), none, (.v (.mv (.t 5)))⟩, ⟨(some 4), none, (.v (.mv (.t 20)))⟩]) .ret))))
def r113 : List AI := [(.mv (.t 4))]
theorem f113 : Fn PP 113 2 a113 r113 := Fn.of (fn := Go.Proofs.Try.f113) (by kernel_rfl) (by kernel_rfl) (by kernel_rfl)
def b57 (b : Nat) : AC := (.seq (.ops [⟨(some 1), none, (.e (.box (b + 1) 0 (.t 0)))⟩, ⟨(some 2), none, (.v (.mv (.c .nilf)))⟩]) (.seq (.ops [⟨(some 3), none, (.v (.mkfn 114 [(.t 1)]))⟩, ⟨(some 2), none, (.v (.mv (.t 3)))⟩]) .ret))
def q57 : List AI := [(.mv (.t 2))]
theorem g57 (b : Nat) : Fn PP 57 1 (b57 b) q57 := Fn.ofB b (fn := Go.Proofs.Try.f57) (by kernel_rfl) (by kernel_rfl) (by kernel_rfl)
def b114_0 (b : Nat) : AC := (.seq (.ops [⟨(some 7), none, (.v (.bin .lss (.t 6) (.t 5)))⟩]) (.seq (.cond (.t 7) .skip (.exit 0)) (.seq (.block 1 (.seq (.ops [⟨(some 8), none, (.v (.load 1 false (.t 1)))⟩, ⟨(some 9), none, (.v (.bin .mul (.t 8) (.c (.int .u64 6364136223846793005))))⟩, ⟨(some 10), none, (.v (.bin .add (.t 9) (.c (.int .u64 1442695040888963407))))⟩, ⟨none, none, (.e (.store 1 (.t 1) (.t 10)))⟩]) (.ops [⟨(some 11), none, (.v (.mv (.t 4)))⟩, ⟨(some 12), none, (.v (.load 1 false (.t 1)))⟩, ⟨(some 13), none, (.v (.bin .shr (.t 12) (.c (.int .u64 40))))⟩, ⟨(some 14), none, (.v (.bin .and (.t 13) (.c (.int .u64 1))))⟩, ⟨(some 15), none, (.v (.bin .eql (.t 14) (.c (.int .u64 1))))⟩, ⟨(some 16), none, (.e (.lit (b + 16) 4 1 1 [(.bool false)] [(0, (.t 15))]))⟩, ⟨(some 17), none, (.e (.app (b + 17) 4 1 1 (.t 11) (.t 16)))⟩, ⟨(some 4), none, (.v (.mv (.t 17)))⟩]))) (.ops [⟨(some 18), none, (.v (.bin .add (.t 6) (.c (.int .i64 1))))⟩, ⟨(some 6), none, (.v (.mv (.t 18)))⟩]))))
def b114 (b : Nat) : AC := (.seq (.ops [⟨(some 3), none, (.v (.mv (.c .cap0)))⟩]) (.seq (.ops [⟨(some 4), none, (.v (.mv (.c .cap0)))⟩]) (.seq (.seq (.ops [⟨(some 5), none, (.v (.mv (.t 0)))⟩, ⟨(some 6), none, (.v (.mv (.c (.int .i64 0))))⟩]) (.block 0 (.loop (b114_0 b)))) (.seq (.ops [⟨(some 19), none, (.v (.mv (.t 4)))⟩, ⟨(some 3), none, (.v (.mv (.t 19)))⟩]) .ret))))
def q114 : List AI := [(.mv (.t 3))]
theorem g114 (b : Nat) : Fn PP 114 2 (b114 b) q114 := Fn.ofB b (fn := Go.Proofs.Try.f114) (by kernel_rfl) (by kernel_rfl) (by kernel_rfl)
def a110 : AC := (.seq (.ops [⟨(some 2), none, (.e (.box 2 0 (.t 0)))⟩, ⟨(some 3), none, (.e (.box 3 0 (.t 1)))⟩, ⟨(some 4), none, (.v (.mv (.c (.bool false))))⟩]) (.seq (.ops [⟨(some 5), none, (.v (.fld 0 (.t 2)))⟩, ⟨(some 6), none, (.v (.load 1 false (.t 5)))⟩, ⟨(some 7), none, (.v (.fld 0 (.t 3)))⟩, ⟨(some 8), none, (.v (.load 1 false (.t 7)))⟩, ⟨(some 9), none, (.v (.sbin .eql (.t 6) (.t 8)))⟩, ⟨(some 10), none, (.v (.mv (.t 9)))⟩, ⟨(some 11), (some (10, true)), (.v (.fld 4 (.t 2)))⟩, ⟨(some 12), (some (10, true)), (.v (.load 1 false (.t 11)))⟩, ⟨(some 13), (some (10, true)), (.v (.fld 2 (.t 3)))⟩, ⟨(some 14), (some (10, true)), (.v (.load 1 false (.t 13)))⟩, ⟨(some 15), (some (10, true)), (.v (.beq false (.t 12) (.t 14)))⟩, ⟨(some 16), none, (.v (.pick (.t 10) (.t 15) (.c (.bool false))))⟩, ⟨(some 4), none, (.v (.mv (.t 16)))⟩]) .ret))
def r110 : List AI := [(.mv (.t 4))]
theorem f110 : Fn PP 110 2 a110 r110 := Fn.of (fn := Go.Proofs.Try.f110) (by kernel_rfl) (by kernel_rfl) (by kernel_rfl)
def a109_0 : AC := (.seq (.ops [⟨(some 18), none, (.v (.bin .lss (.t 17) (.t 16)))⟩]) (.seq (.cond (.t 18) .skip (.exit 0)) (.seq (.block 1 (.seq (.ops [⟨(some 19), none, (.v (.mv (.t 17)))⟩, ⟨(some 20), none, (.v (.idx 5 (.t 15) (.t 17)))⟩, ⟨(some 21), none, (.v (.load 5 true (.t 20)))⟩, ⟨(some 8), none, (.e (.alloc 8 [(.str ⟨#[]⟩), (.int .i64 0), (.int .i64 0), (.int .i64 0), (.bool false)]))⟩, ⟨(some 7), none, (.v (.mv (.t 19)))⟩, ⟨none, none, (.e (.store 5 (.t 8) (.t 21)))⟩]) (.seq (.ops [⟨(some 22), none, (.v (.mv (.t 1)))⟩, ⟨(some 23), none, (.v (.mv (.t 7)))⟩, ⟨(some 24), none, (.v (.idx 3 (.t 22) (.t 23)))⟩, ⟨(some 25), none, (.v (.load 3 true (.t 24)))⟩, ⟨(some 9), none, (.e (.alloc 9 [(.str ⟨#[]⟩), (.int .i64 0), (.bool false)]))⟩, ⟨none, none, (.e (.store 3 (.t 9) (.t 25)))⟩]) (.seq (.ops [⟨(some 26), none, (.v (.mv (.t 2)))⟩, ⟨(some 27), none, (.v (.load 5 true (.t 8)))⟩, ⟨(some 28), none, (.v (.load 3 true (.t 9)))⟩, ⟨(some 29), none, (.call (.t 26) [(.t 27), (.t 28)])⟩, ⟨(some 30), none, (.v (.not (.t 29)))⟩]) (.cond (.t 30) (.seq (.ops [⟨(some 6), none, (.v (.mv (.c (.bool false))))⟩]) .ret) .skip))))) (.ops [⟨(some 31), none, (.v (.bin .add (.t 17) (.c (.int .i64 1))))⟩, ⟨(some 17), none, (.v (.mv (.t 31)))⟩]))))
def a109 : AC := (.seq (.ops [⟨(some 6), none, (.v (.mv (.c (.bool false))))⟩]) (.seq (.seq (.ops [⟨(some 10), none, (.v (.mv (.t 0)))⟩, ⟨(some 11), none, (.v (.len (.t 10)))⟩, ⟨(some 12), none, (.v (.mv (.t 1)))⟩, ⟨(some 13), none, (.v (.len (.t 12)))⟩, ⟨(some 14), none, (.v (.bin .neq (.t 11) (.t 13)))⟩]) (.cond (.t 14) (.seq (.ops [⟨(some 6), none, (.v (.mv (.c (.bool false))))⟩]) .ret) .skip)) (.seq (.seq (.ops [⟨(some 15), none, (.v (.mv (.t 0)))⟩, ⟨(some 16), none, (.v (.len (.t 15)))⟩, ⟨(some 17), none, (.v (.mv (.c (.int .i64 0))))⟩]) (.block 0 (.loop a109_0))) (.seq (.ops [⟨(some 6), none, (.v (.mv (.c (.bool true))))⟩]) .ret))))
def r109 : List AI := [(.mv (.t 6))]
theorem f109 : Fn PP 109 3 a109 r109 := Fn.of (fn := Go.Proofs.Try.f109) (by kernel_rfl) (by kernel_rfl) (by kernel_rfl)
theorem p113 (k : Int) (n : Nat) (hn : n ≤ 1048576) : Pure PP 113 [.int .i64 k, .int .i64 (n : Nat)] fun r => ∃ f, r = .fs n f ∧ ∀ i, i < n → ∃ b, f i = .bool b := by
  refine Fn.pure fmix f113 ?_
  unfold a113 r113
  simp -implicitDefEqProofs only [vqa, Nat.reduceEqDiff, Nat.reduceAdd, reduceIte, Nat.reduceLeDiff, Nat.reduceBEq, Nat.reduceLT, Nat.reduceSub, Int.reduceLT, Int.reduceLE, Int.reduceEq, Int.reduceToNat, Nat.reduceMul, eq_self, implies_true, forall_const]
  refine vFor n (fun i e m => e 0 = .int .i64 k ∧ e 7 = .int .i64 n ∧ e 8 = .int .i64 i ∧ Acc 18 4 1 i (fun _ a => ∃ b, a = .bool b) (e 5) m) ?_ ?_ ?_
  · simp -implicitDefEqProofs only [vqa, Nat.reduceEqDiff, Nat.reduceAdd, reduceIte, Nat.reduceLeDiff, Nat.reduceBEq, Nat.reduceLT, Nat.reduceSub, Int.reduceLT, Int.reduceLE, Int.reduceEq, Int.reduceToNat, Nat.reduceMul, eq_self, implies_true, forall_const]
    exact .none
  · rintro i e m hi hi' ⟨h0, h7, h8, hA⟩
    unfold a113_0
    rcases hA with ⟨hz, h3⟩ | ⟨ver, g, h3, hm3, hg⟩
    · simp -implicitDefEqProofs only [vqa, Nat.reduceEqDiff, Nat.reduceAdd, reduceIte, Nat.reduceLeDiff, Nat.reduceBEq, Nat.reduceLT, Nat.reduceSub, Int.reduceLT, Int.reduceLE, Int.reduceEq, Int.reduceToNat, Nat.reduceMul, eq_self, implies_true, forall_const, h0, h7, h8, h3, hi']
      subst hz
      exact ⟨by omega, hi, wI (by omega) (by omega), .first ⟨_, rfl⟩⟩
    · simp -implicitDefEqProofs only [vqa, Nat.reduceEqDiff, Nat.reduceAdd, reduceIte, Nat.reduceLeDiff, Nat.reduceBEq, Nat.reduceLT, Nat.reduceSub, Int.reduceLT, Int.reduceLE, Int.reduceEq, Int.reduceToNat, Nat.reduceMul, eq_self, implies_true, forall_const, h0, h7, h8, h3, hm3, hi']
      exact ⟨by omega, ⟨by omega, by omega⟩, hi, wI (by omega) (by omega), .push hg ⟨_, rfl⟩⟩
  · rintro e m ⟨h0, h7, h8, hA⟩
    unfold a113_0
    rcases hA with ⟨hz, h3⟩ | ⟨ver, g, h3, hm3, hg⟩
    · simp -implicitDefEqProofs only [vqa, Nat.reduceEqDiff, Nat.reduceAdd, reduceIte, Nat.reduceLeDiff, Nat.reduceBEq, Nat.reduceLT, Nat.reduceSub, Int.reduceLT, Int.reduceLE, Int.reduceEq, Int.reduceToNat, Nat.reduceMul, eq_self, implies_true, forall_const, h0, h7, h8, h3]
      exact ⟨_, by rw [hz], fun j hj => absurd hj (by omega)⟩
    · simp -implicitDefEqProofs only [vqa, Nat.reduceEqDiff, Nat.reduceAdd, reduceIte, Nat.reduceLeDiff, Nat.reduceBEq, Nat.reduceLT, Nat.reduceSub, Int.reduceLT, Int.reduceLE, Int.reduceEq, Int.reduceToNat, Nat.reduceMul, eq_self, implies_true, forall_const, h0, h7, h8, h3, hm3]
      exact ⟨g, rfl, hg⟩
theorem p57 (b : Nat) {mem : Mem} (s : Int) : CallW PP 57 [.int .u64 s] mem fun r m => ∃ v, r = .fn 114 [.ptr (b + 1) v 0] ∧ m (b + 1) = .var v [.int .u64 s] ∧ Keeps b mem m := by
  refine Fn.call fmix (g57 b) ?_
  unfold b57 q57
  simp -implicitDefEqProofs only [vqa, Nat.reduceEqDiff, Nat.reduceAdd, reduceIte, Nat.reduceLeDiff, Nat.reduceBEq, Nat.reduceLT, Nat.reduceSub, Int.reduceLT, Int.reduceLE, Int.reduceEq, Int.reduceToNat, Nat.reduceMul, eq_self, implies_true, forall_const]
  exact ⟨_, rfl, rfl⟩
theorem p114 (b : Nat) {mem : Mem} {o v : Nat} {s : Int} (n : Nat) (hn : n ≤ 1048576) (ho : o < b) (hm : mem o = .var v [.int .u64 s]) :
    CallW PP 114 [.int .i64 (n : Nat), .ptr o v 0] mem fun r m => ∃ v' s', m o = .var v' [.int .u64 s'] ∧ v' = v ∧ Acc (b + 17) 4 1 n (fun _ a => ∃ b, a = .bool b) r m ∧ ∀ i, i < b → i ≠ o → m i = mem i := by
  refine Fn.call fmix (g114 b) ?_
  unfold b114 q114
  simp -implicitDefEqProofs only [vqa, Nat.reduceEqDiff, Nat.reduceAdd, reduceIte, Nat.reduceLeDiff, Nat.reduceBEq, Nat.reduceLT, Nat.reduceSub, Int.reduceLT, Int.reduceLE, Int.reduceEq, Int.reduceToNat, Nat.reduceMul, eq_self, implies_true, forall_const]
  refine vFor n (fun i e m => e 1 = .ptr o v 0 ∧ e 5 = .int .i64 n ∧ e 6 = .int .i64 i ∧ (∃ s', m o = .var v [.int .u64 s']) ∧ Acc (b + 17) 4 1 i (fun _ a => ∃ b, a = .bool b) (e 4) m ∧ ∀ i, i < b → i ≠ o → m i = mem i) ?_ ?_ ?_
  · simp -implicitDefEqProofs only [vqa, Nat.reduceEqDiff, Nat.reduceAdd, reduceIte, Nat.reduceLeDiff, Nat.reduceBEq, Nat.reduceLT, Nat.reduceSub, Int.reduceLT, Int.reduceLE, Int.reduceEq, Int.reduceToNat, Nat.reduceMul, eq_self, implies_true, forall_const]
    exact ⟨⟨_, hm⟩, .none⟩
  · rintro i e m hi hi' ⟨h0, h7, h8, ⟨s', hs'⟩, hA, hK⟩
    unfold b114_0
    rcases hA with ⟨hz, h3⟩ | ⟨ver, g, h3, hm3, hg⟩
    · simp -implicitDefEqProofs only [vqa, Nat.reduceEqDiff, Nat.reduceAdd, reduceIte, Nat.reduceLeDiff, Nat.reduceBEq, Nat.reduceLT, Nat.reduceSub, Int.reduceLT, Int.reduceLE, Int.reduceEq, Int.reduceToNat, Nat.reduceMul, eq_self, implies_true, forall_const, h0, h7, h8, h3, hs', hi', bNe' ho, bNe ho]
      subst hz
      exact ⟨hi, wI (by omega) (by omega), ⟨_, rfl⟩, .first ⟨_, rfl⟩, fun j hj hne => by rw [if_neg (by omega), if_neg (by omega), if_neg hne]; exact hK j hj hne⟩
    · simp -implicitDefEqProofs only [vqa, Nat.reduceEqDiff, Nat.reduceAdd, reduceIte, Nat.reduceLeDiff, Nat.reduceBEq, Nat.reduceLT, Nat.reduceSub, Int.reduceLT, Int.reduceLE, Int.reduceEq, Int.reduceToNat, Nat.reduceMul, eq_self, implies_true, forall_const, h0, h7, h8, h3, hs', hm3, hi', bNe' ho, bNe ho]
      exact ⟨⟨by omega, by omega⟩, hi, wI (by omega) (by omega), ⟨_, rfl⟩, .push hg ⟨_, rfl⟩, fun j hj hne => by rw [if_neg (by omega), if_neg (by omega), if_neg hne]; exact hK j hj hne⟩
  · rintro e m ⟨h0, h7, h8, ⟨s', hs'⟩, hA, hK⟩
    unfold b114_0
    rcases hA with ⟨hz, h3⟩ | ⟨ver, g, h3, hm3, hg⟩
    · simp -implicitDefEqProofs only [vqa, Nat.reduceEqDiff, Nat.reduceAdd, reduceIte, Nat.reduceLeDiff, Nat.reduceBEq, Nat.reduceLT, Nat.reduceSub, Int.reduceLT, Int.reduceLE, Int.reduceEq, Int.reduceToNat, Nat.reduceMul, eq_self, implies_true, forall_const, h0, h7, h8, h3, hs', bNe' ho, bNe ho]
      exact ⟨_, _, rfl, rfl, .inl ⟨hz, rfl⟩, hK⟩
    · simp -implicitDefEqProofs only [vqa, Nat.reduceEqDiff, Nat.reduceAdd, reduceIte, Nat.reduceLeDiff, Nat.reduceBEq, Nat.reduceLT, Nat.reduceSub, Int.reduceLT, Int.reduceLE, Int.reduceEq, Int.reduceToNat, Nat.reduceMul, eq_self, implies_true, forall_const, h0, h7, h8, h3, hs', hm3, bNe' ho, bNe ho]
      exact ⟨_, _, rfl, rfl, .inr ⟨_, _, rfl, hm3, hg⟩, hK⟩
theorem p110 (f : FlopV) (r : RegV) : Pure PP 110 [f.av, r.av] fun q => ∃ b, q = .bool b ∧ (f.name = r.name ∧ f.init = r.init → b = true) := by
  refine Fn.pure fmix f110 ?_
  unfold a110 r110 FlopV.av RegV.av
  simp -implicitDefEqProofs only [vqa, Nat.reduceEqDiff, Nat.reduceAdd, reduceIte, Nat.reduceLeDiff, Nat.reduceBEq, Nat.reduceLT, Nat.reduceSub, Int.reduceLT, Int.reduceLE, Int.reduceEq, Int.reduceToNat, Nat.reduceMul, eq_self, implies_true, forall_const]
  exact ⟨fun h => ⟨_, rfl, fun e => by rw [e.2]; exact beq_self_eq_true _⟩, fun h => ⟨_, rfl, fun e => absurd e.1 h⟩⟩
theorem p109 (n : Nat) (x : Nat → FlopV) (y : Nat → RegV) (f g : Nat → AV) (hf : ∀ i, i < n → f i = (x i).av) (hg : ∀ i, i < n → g i = (y i).av) (hn : n ≤ 1048576) (h : ∀ i, i < n → (x i).name = (y i).name ∧ (x i).init = (y i).init) :
    Pure PP 109 [.fs n f, .fs n g, .fn 110 []] fun r => r = .bool true := by
  refine Fn.pure fmix f109 ?_
  unfold a109 r109
  simp -implicitDefEqProofs only [vqa, Nat.reduceEqDiff, Nat.reduceAdd, reduceIte, Nat.reduceLeDiff, Nat.reduceBEq, Nat.reduceLT, Nat.reduceSub, Int.reduceLT, Int.reduceLE, Int.reduceEq, Int.reduceToNat, Nat.reduceMul, eq_self, implies_true, forall_const]
  refine vFor n (fun i e m => e 0 = .fs n f ∧ e 1 = .fs n g ∧ e 2 = .fn 110 [] ∧ e 15 = .fs n f ∧ e 16 = .int .i64 n ∧ e 17 = .int .i64 i) ?_ ?_ ?_
  · simp -implicitDefEqProofs only [vqa, Nat.reduceEqDiff, Nat.reduceAdd, reduceIte, Nat.reduceLeDiff, Nat.reduceBEq, Nat.reduceLT, Nat.reduceSub, Int.reduceLT, Int.reduceLE, Int.reduceEq, Int.reduceToNat, Nat.reduceMul, eq_self, implies_true, forall_const]
  · rintro i e m hi hi' ⟨h0, h1, h2, h15, h16, h17⟩
    unfold a109_0
    simp -implicitDefEqProofs only [vqa, Nat.reduceEqDiff, Nat.reduceAdd, reduceIte, Nat.reduceLeDiff, Nat.reduceBEq, Nat.reduceLT, Nat.reduceSub, Int.reduceLT, Int.reduceLE, Int.reduceEq, Int.reduceToNat, Nat.reduceMul, eq_self, implies_true, forall_const, h0, h1, h2, h15, h16, h17, hi', hf i hi, hg i hi, FlopV.av, RegV.av]
    refine ⟨by omega, by omega, ?_⟩
    refine CallW.sc (p110 (x i) (y i)) rfl ⟨⟨trivial, trivial, trivial, trivial, trivial, trivial⟩, ⟨trivial, trivial, trivial, trivial⟩, trivial⟩ fun r ⟨b, hr, hb⟩ => ⟨by subst hr; rfl, ?_⟩
    obtain rfl := hb (h i hi)
    subst hr
    simp -implicitDefEqProofs only [vqa, Nat.reduceEqDiff, Nat.reduceAdd, reduceIte, Nat.reduceLeDiff, Nat.reduceBEq, Nat.reduceLT, Nat.reduceSub, Int.reduceLT, Int.reduceLE, Int.reduceEq, Int.reduceToNat, Nat.reduceMul, eq_self, implies_true, forall_const, h0, h1, h2, h15, h16, h17, Bool.not_true]
    exact ⟨hi, wI (by omega) (by omega)⟩
  · rintro e m ⟨h0, h1, h2, h15, h16, h17⟩
    unfold a109_0
    simp -implicitDefEqProofs only [vqa, Nat.reduceEqDiff, Nat.reduceAdd, reduceIte, Nat.reduceLeDiff, Nat.reduceBEq, Nat.reduceLT, Nat.reduceSub, Int.reduceLT, Int.reduceLE, Int.reduceEq, Int.reduceToNat, Nat.reduceMul, eq_self, implies_true, forall_const, h0, h1, h2, h15, h16, h17]
end Go.Ab
namespace Go.Ab
open Go
def a111 : AC := (.seq (.ops [⟨(some 5), none, (.v (.mv (.c (.bool false))))⟩]) (.seq (.any [⟨(some 11), none, (.v (.load 5 true (.t 1)))⟩, ⟨(some 12), none, (.v (.mv (.t 0)))⟩, ⟨(some 13), none, (.v (.load 1 false (.t 2)))⟩, ⟨(some 14), none, (.v (.slc 1 (.t 12) none (some (.t 13))))⟩, ⟨(some 15), none, (.v (.mv (.t 0)))⟩, ⟨(some 16), none, (.v (.load 1 false (.t 2)))⟩, ⟨(some 17), none, (.v (.slc 1 (.t 15) (some (.t 16)) none))⟩, ⟨(some 18), none, (.call (.c (.fn 41 [])) [(.t 11), (.t 14), (.t 17)])⟩, ⟨(some 10), none, (.v (.mv (.t 18)))⟩, ⟨(some 19), none, (.v (.ext 0 (.t 10)))⟩, ⟨(some 20), none, (.v (.ext 1 (.t 10)))⟩, ⟨(some 6), none, (.v (.mv (.t 19)))⟩, ⟨(some 7), none, (.v (.mv (.t 20)))⟩] [[], [], [], [1, 2], [], [], [4, 5], [0, 3, 6], [7], [8], [8], [9, 7, 0, 1, 2, 3, 4, 5, 6, 7, 8, 9], [10, 11, 0, 1, 2, 3, 4, 5, 6, 7, 8, 9, 10, 11]]) (.seq (.any [⟨(some 22), none, (.v (.load 5 true (.t 3)))⟩, ⟨(some 23), none, (.v (.mv (.t 0)))⟩, ⟨(some 24), none, (.v (.load 1 false (.t 2)))⟩, ⟨(some 25), none, (.v (.slc 1 (.t 23) none (some (.t 24))))⟩, ⟨(some 26), none, (.v (.mv (.t 0)))⟩, ⟨(some 27), none, (.v (.load 1 false (.t 2)))⟩, ⟨(some 28), none, (.v (.slc 1 (.t 26) (some (.t 27)) none))⟩, ⟨(some 29), none, (.call (.c (.fn 112 [])) [(.t 22), (.t 25), (.t 28)])⟩, ⟨(some 21), none, (.v (.mv (.t 29)))⟩, ⟨(some 30), none, (.v (.ext 0 (.t 21)))⟩, ⟨(some 31), none, (.v (.ext 1 (.t 21)))⟩, ⟨(some 8), none, (.v (.mv (.t 30)))⟩, ⟨(some 9), none, (.v (.mv (.t 31)))⟩] [[], [], [], [1, 2], [], [], [4, 5], [0, 3, 6], [7], [8], [8], [9, 7, 0, 1, 2, 3, 4, 5, 6, 7, 8, 9], [10, 11, 0, 1, 2, 3, 4, 5, 6, 7, 8, 9, 10, 11]]) (.seq (.ops [⟨(some 32), none, (.v (.mv (.t 6)))⟩, ⟨(some 33), none, (.v (.mv (.t 8)))⟩, ⟨(some 34), none, (.call (.c (.fn 42 [])) [(.t 32), (.t 33)])⟩, ⟨(some 35), none, (.v (.mv (.t 34)))⟩, ⟨(some 36), (some (35, true)), (.v (.mv (.t 7)))⟩, ⟨(some 37), (some (35, true)), (.v (.mv (.t 9)))⟩, ⟨(some 38), (some (35, true)), (.call (.c (.fn 42 [])) [(.t 36), (.t 37)])⟩, ⟨(some 39), none, (.v (.pick (.t 35) (.t 38) (.c (.bool false))))⟩, ⟨(some 5), none, (.v (.mv (.t 39)))⟩]) .ret))))
def r111 : List AI := [(.mv (.t 5))]
theorem f111 : Fn PP 111 4 a111 r111 := Fn.of (fn := Go.Proofs.Try.f111) (by kernel_rfl) (by kernel_rfl) (by kernel_rfl)
def b56_0 (b : Nat) : AC := (.seq (.ops [⟨(some 50), none, (.v (.bin .lss (.t 49) (.c (.int .i64 20))))⟩]) (.seq (.cond (.t 50) .skip (.exit 0)) (.seq (.block 1 (.seq (.ops [⟨(some 51), none, (.v (.mv (.t 11)))⟩, ⟨(some 52), none, (.v (.mv (.t 3)))⟩, ⟨(some 53), none, (.v (.mv (.t 12)))⟩, ⟨(some 54), none, (.call (.t 52) [(.t 53)])⟩, ⟨(some 55), none, (.call (.t 51) [(.t 54)])⟩, ⟨(some 56), none, (.v (.not (.t 55)))⟩]) (.cond (.t 56) (.seq (.ops [⟨(some 8), none, (.v (.mv (.c (.bool false))))⟩]) .ret) .skip))) (.ops [⟨(some 57), none, (.v (.bin .add (.t 49) (.c (.int .i64 1))))⟩, ⟨(some 49), none, (.v (.mv (.t 57)))⟩]))))
def b56_1 (b : Nat) : AC := (.seq (.ops [⟨(some 61), none, (.v (.bin .lss (.t 60) (.t 59)))⟩]) (.seq (.cond (.t 61) .skip (.exit 2)) (.seq (.block 3 (.seq (.ops [⟨(some 62), none, (.v (.mv (.t 60)))⟩, ⟨(some 13), none, (.v (.mv (.t 62)))⟩]) (.seq (.ops [⟨(some 63), none, (.v (.mv (.t 11)))⟩, ⟨(some 64), none, (.v (.mv (.t 13)))⟩, ⟨(some 65), none, (.v (.mv (.t 12)))⟩, ⟨(some 66), none, (.call (.c (.fn 113 [])) [(.t 64), (.t 65)])⟩, ⟨(some 67), none, (.call (.t 63) [(.t 66)])⟩, ⟨(some 68), none, (.v (.not (.t 67)))⟩]) (.cond (.t 68) (.seq (.ops [⟨(some 8), none, (.v (.mv (.c (.bool false))))⟩]) .ret) .skip)))) (.ops [⟨(some 69), none, (.v (.bin .add (.t 60) (.c (.int .i64 1))))⟩, ⟨(some 60), none, (.v (.mv (.t 69)))⟩]))))
def b56 (b : Nat) : AC := (.seq (.ops [⟨(some 4), none, (.e (.box (b + 4) 0 (.t 0)))⟩, ⟨(some 5), none, (.e (.box (b + 5) 0 (.t 1)))⟩, ⟨(some 8), none, (.v (.mv (.c (.bool false))))⟩]) (.seq (.ops [⟨(some 14), none, (.v (.fld 2 (.t 4)))⟩, ⟨(some 15), none, (.v (.load 1 false (.t 14)))⟩, ⟨(some 16), none, (.v (.fld 2 (.t 5)))⟩, ⟨(some 17), none, (.v (.load 1 false (.t 16)))⟩, ⟨(some 18), none, (.call (.c (.fn 109 [])) [(.t 15), (.t 17), (.c (.fn 110 []))])⟩, ⟨(some 9), none, (.v (.mv (.t 18)))⟩]) (.seq (.seq (.ops [⟨(some 19), none, (.v (.mv (.t 9)))⟩, ⟨(some 20), none, (.v (.not (.t 19)))⟩, ⟨(some 21), none, (.v (.mv (.t 20)))⟩, ⟨(some 22), (some (21, false)), (.v (.fld 0 (.t 4)))⟩, ⟨(some 23), (some (21, false)), (.v (.load 1 false (.t 22)))⟩, ⟨(some 24), (some (21, false)), (.v (.fld 0 (.t 5)))⟩, ⟨(some 25), (some (21, false)), (.v (.load 1 false (.t 24)))⟩, ⟨(some 26), (some (21, false)), (.call (.c (.fn 78 [])) [(.t 23), (.t 25)])⟩, ⟨(some 27), (some (21, false)), (.v (.not (.t 26)))⟩, ⟨(some 28), none, (.v (.pick (.t 21) (.c (.bool true)) (.t 27)))⟩, ⟨(some 29), none, (.v (.mv (.t 28)))⟩, ⟨(some 30), (some (29, false)), (.v (.fld 1 (.t 4)))⟩, ⟨(some 31), (some (29, false)), (.v (.load 1 false (.t 30)))⟩, ⟨(some 32), (some (29, false)), (.v (.fld 1 (.t 5)))⟩, ⟨(some 33), (some (29, false)), (.v (.load 1 false (.t 32)))⟩, ⟨(some 34), (some (29, false)), (.call (.c (.fn 78 [])) [(.t 31), (.t 33)])⟩, ⟨(some 35), (some (29, false)), (.v (.not (.t 34)))⟩, ⟨(some 36), none, (.v (.pick (.t 29) (.c (.bool true)) (.t 35)))⟩]) (.cond (.t 36) (.seq (.ops [⟨(some 8), none, (.v (.mv (.c (.bool false))))⟩]) .ret) .skip)) (.seq (.ops [⟨(some 37), none, (.v (.fld 0 (.t 5)))⟩, ⟨(some 38), none, (.v (.load 1 false (.t 37)))⟩, ⟨(some 39), none, (.v (.len (.t 38)))⟩, ⟨(some 10), none, (.e (.alloc (b + 10) [(.int .i64 0)]))⟩, ⟨none, none, (.e (.store 1 (.t 10) (.t 39)))⟩]) (.seq (.ops [⟨(some 40), none, (.v (.mkfn 111 [(.t 4), (.t 10), (.t 5)]))⟩, ⟨(some 11), none, (.v (.mv (.t 40)))⟩]) (.seq (.ops [⟨(some 41), none, (.v (.load 1 false (.t 10)))⟩, ⟨(some 42), none, (.v (.fld 2 (.t 5)))⟩, ⟨(some 43), none, (.v (.load 1 false (.t 42)))⟩, ⟨(some 44), none, (.v (.len (.t 43)))⟩, ⟨(some 45), none, (.v (.bin .add (.t 41) (.t 44)))⟩, ⟨(some 12), none, (.v (.mv (.t 45)))⟩]) (.seq (.seq (.ops [⟨(some 46), none, (.v (.mv (.t 12)))⟩, ⟨(some 47), none, (.v (.mv (.t 2)))⟩, ⟨(some 48), none, (.v (.bin .gtr (.t 46) (.t 47)))⟩]) (.cond (.t 48) (.seq (.seq (.ops [⟨(some 49), none, (.v (.mv (.c (.int .i64 0))))⟩]) (.block 0 (.loop (b56_0 b)))) (.seq (.ops [⟨(some 8), none, (.v (.mv (.c (.bool true))))⟩]) .ret)) .skip)) (.seq (.seq (.ops [⟨(some 58), none, (.v (.mv (.t 12)))⟩, ⟨(some 59), none, (.v (.bin .shl (.c (.int .i64 1)) (.t 58)))⟩, ⟨(some 60), none, (.v (.mv (.c (.int .i64 0))))⟩]) (.block 2 (.loop (b56_1 b)))) (.seq (.ops [⟨(some 8), none, (.v (.mv (.c (.bool true))))⟩]) .ret)))))))))
def q56 : List AI := [(.mv (.t 8))]
theorem g56 (b : Nat) : Fn PP 56 4 (b56 b) q56 := Fn.ofB b (fn := Go.Proofs.Try.f56) (by kernel_rfl) (by kernel_rfl) (by kernel_rfl)
theorem p111 {N : Net} {G : Gra} {cs ds : List AV} (hN : NetC cs N) (ok : N.Ok) (gd : N.Good) (hG : GraC ds G) (gok : G.Ok) (gg : G.Good) (hS : SameV N G) {mem : Mem} {o1 o2 o3 v1 v2 v3 n : Nat} (m1 : mem o1 = .var v1 cs) (m2 : mem o2 = .var v2 [.int .i64 (N.ni : Nat)]) (m3 : mem o3 = .var v3 ds) (f : Nat → AV) (hn : n = N.ni + N.nf) (hf : ∀ i, i < n → ∃ b, f i = .bool b) :
    CallW PP 111 [.fs n f, .ptr o1 v1 0, .ptr o2 v2 0, .ptr o3 v3 0] mem fun r m => r = .bool true ∧ m = mem := by
  have hN0 := hN
  have hG0 := hG
  obtain ⟨f0, f1, f2, f3, f4, rfl, q0, q1, q2, q3, q4⟩ := hN
  obtain ⟨e0, e1, e2, e3, e4, rfl, k0, k1, k2, k3, k4⟩ := hG
  have l1 := ok.ni; have l2 := ok.nf; have l3 := ok.nk
  obtain ⟨x, hx⟩ : ∃ x : Nat → Bool, ∀ i, i < n → f i = .bool (x i) := ⟨fun i => if h : i < n then (hf i h).choose else false, fun i hi => by show f i = .bool (if h : i < n then (hf i h).choose else false); rw [dif_pos hi]; exact (hf i hi).choose_spec⟩
  subst hn
  have sN : N.ni + N.nf - N.ni = N.nf := by omega
  have eG1 := hS.ni; have eG2 := hS.nr; have eG3 := hS.nk
  refine Fn.call fmix f111 ?_
  unfold a111 r111
  simp -implicitDefEqProofs only [vqa, Nat.reduceEqDiff, Nat.reduceAdd, reduceIte, Nat.reduceLeDiff, Nat.reduceBEq, Nat.reduceLT, Nat.reduceSub, Int.reduceLT, Int.reduceLE, Int.reduceEq, Int.reduceToNat, Nat.reduceMul, eq_self, implies_true, forall_const, m1, m2, m3]
  refine vAny [0, 1, 2, 3, 4, 5, 6, 7, 8, 9, 10, 11, 12] 13 allL (by kernel_rfl) (by kernel_rfl) ?_
  simp -implicitDefEqProofs only [vqa, Nat.reduceEqDiff, Nat.reduceAdd, reduceIte, Nat.reduceLeDiff, Nat.reduceBEq, Nat.reduceLT, Nat.reduceSub, Int.reduceLT, Int.reduceLE, Int.reduceEq, Int.reduceToNat, Nat.reduceMul, eq_self, implies_true, forall_const, m1, m2, m3]
  have w1 : ((N.ni : Int) - 0).toNat = N.ni := by omega
  have w2 : (((N.ni + N.nf : Nat) : Int) - (N.ni : Nat)).toNat = N.nf := by omega
  simp only [w1, w2]
  refine ⟨⟨by omega, by omega, fun h => by rw [hx 0 (by omega)]; rfl⟩, ⟨by omega, by omega, by omega, fun h => by rw [hx _ (by omega)]; rfl⟩, ?_⟩
  refine CallW.fz (p41 hN0 ok gd x (fun i => x (N.ni + i)) _ _ (fun i hi => hx i (by omega)) (fun i hi => hx _ (by omega))) rfl rfl fun r ⟨fo, fn, hr, ho, hn⟩ => ⟨by subst hr; rfl, ?_⟩
  subst hr
  simp -implicitDefEqProofs only [vqa, Nat.reduceEqDiff, Nat.reduceAdd, reduceIte, Nat.reduceLeDiff, Nat.reduceBEq, Nat.reduceLT, Nat.reduceSub, Int.reduceLT, Int.reduceLE, Int.reduceEq, Int.reduceToNat, Nat.reduceMul, eq_self, implies_true, forall_const, m1, m2, m3]
  refine vAny [0, 1, 2, 3, 4, 5, 6, 7, 8, 9, 10, 11, 12] 13 allL (by kernel_rfl) (by kernel_rfl) ?_
  simp -implicitDefEqProofs only [vqa, Nat.reduceEqDiff, Nat.reduceAdd, reduceIte, Nat.reduceLeDiff, Nat.reduceBEq, Nat.reduceLT, Nat.reduceSub, Int.reduceLT, Int.reduceLE, Int.reduceEq, Int.reduceToNat, Nat.reduceMul, eq_self, implies_true, forall_const, m1, m2, m3]
  simp only [w1, w2]
  refine ⟨⟨by omega, by omega, fun h => by rw [hx 0 (by omega)]; rfl⟩, ⟨by omega, by omega, by omega, fun h => by rw [hx _ (by omega)]; rfl⟩, ?_⟩
  refine CallW.fz (p112 hG0 gg x (fun i => x (N.ni + i)) _ _ (fun i hi => hx i (by omega)) (fun i hi => hx _ (by omega))) (by rw [eG1, eG2]; rfl) rfl fun r ⟨go, gn, hr, ho', hn'⟩ => ⟨by subst hr; rfl, ?_⟩
  subst hr
  simp -implicitDefEqProofs only [vqa, Nat.reduceEqDiff, Nat.reduceAdd, reduceIte, Nat.reduceLeDiff, Nat.reduceBEq, Nat.reduceLT, Nat.reduceSub, Int.reduceLT, Int.reduceLE, Int.reduceEq, Int.reduceToNat, Nat.reduceMul, eq_self, implies_true, forall_const, m1, m2, m3]
  refine CallW.sc (p42 N.nk G.nk _ _ fo go ho ho' l3 (by omega)) rfl ⟨trivial, trivial, trivial⟩ fun r ⟨b, hr, hb⟩ => ⟨by subst hr; rfl, ?_⟩
  obtain rfl : b = true := hb.2 ⟨eG3.symm, fun i hi => (hS.outs _ _ i hi).symm⟩
  subst hr
  simp -implicitDefEqProofs only [vqa, Nat.reduceEqDiff, Nat.reduceAdd, reduceIte, Nat.reduceLeDiff, Nat.reduceBEq, Nat.reduceLT, Nat.reduceSub, Int.reduceLT, Int.reduceLE, Int.reduceEq, Int.reduceToNat, Nat.reduceMul, eq_self, implies_true, forall_const]
  refine CallW.sc (p42 N.nf G.nr _ _ fn gn hn hn' l2 (by omega)) rfl ⟨trivial, trivial, trivial⟩ fun r ⟨b, hr, hb⟩ => ⟨by subst hr; rfl, ?_⟩
  obtain rfl : b = true := hb.2 ⟨eG2.symm, fun i hi => (hS.next _ _ i hi).symm⟩
  subst hr
  simp -implicitDefEqProofs only [vqa, Nat.reduceEqDiff, Nat.reduceAdd, reduceIte, Nat.reduceLeDiff, Nat.reduceBEq, Nat.reduceLT, Nat.reduceSub, Int.reduceLT, Int.reduceLE, Int.reduceEq, Int.reduceToNat, Nat.reduceMul, eq_self, implies_true, forall_const]
theorem shl7 (n : Nat) (h : n ≤ 7) : IntKind.i64.wrap (1 * 2 ^ min (n : Int).toNat 64) = ((2 ^ n : Nat) : Int) ∧ 2 ^ n ≤ 128 := by
  rw [Int.toNat_natCast]
  have : n = 0 ∨ n = 1 ∨ n = 2 ∨ n = 3 ∨ n = 4 ∨ n = 5 ∨ n = 6 ∨ n = 7 := by omega
  rcases this with rfl | rfl | rfl | rfl | rfl | rfl | rfl | rfl <;> exact ⟨by decide, by decide⟩
theorem p56 (B : Nat) {N : Net} {G : Gra} {cs ds : List AV} (hN : NetC cs N) (ok : N.Ok) (gd : N.Good) (hG : GraC ds G) (gok : G.Ok) (gg : G.Good) (hS : SameV N G) {mem : Mem} {o v : Nat} {s : Int} (ho : o < B) (hm : mem o = .var v [.int .u64 s]) :
    CallW PP 56 [.agg cs, .agg ds, .int .i64 7, .fn 114 [.ptr o v 0]] mem fun r m => r = .bool true ∧ ∀ k, k < B → k ≠ o → m k = mem k := by
  have hN0 := hN
  have hG0 := hG
  obtain ⟨f0, f1, f2, f3, f4, rfl, q0, q1, q2, q3, q4⟩ := hN
  obtain ⟨e0, e1, e2, e3, e4, rfl, k0, k1, k2, k3, k4⟩ := hG
  have l1 := ok.ni; have l2 := ok.nf; have l3 := ok.nk; have l4 := ok.no
  have eG1 := hS.ni; have eG2 := hS.nr; have eG3 := hS.no
  refine Fn.call fmix (g56 B) ?_
  unfold b56 q56
  simp -implicitDefEqProofs only [vqa, Nat.reduceEqDiff, Nat.reduceAdd, reduceIte, Nat.reduceLeDiff, Nat.reduceBEq, Nat.reduceLT, Nat.reduceSub, Int.reduceLT, Int.reduceLE, Int.reduceEq, Int.reduceToNat, Nat.reduceMul, eq_self, implies_true, forall_const]
  refine CallW.sc (p109 N.nf N.flop G.reg f2 e2 q2 (fun i hi => k2 i (by omega)) l2 fun i hi => ⟨(hS.reg i hi).1.symm, (hS.reg i hi).2.symm⟩) (by rw [eG2]; rfl) ⟨trivial, trivial, ⟨trivial, trivial⟩⟩ fun r hr => ⟨by subst hr; rfl, ?_⟩
  subst hr
  simp -implicitDefEqProofs only [vqa, Nat.reduceEqDiff, Nat.reduceAdd, reduceIte, Nat.reduceLeDiff, Nat.reduceBEq, Nat.reduceLT, Nat.reduceSub, Int.reduceLT, Int.reduceLE, Int.reduceEq, Int.reduceToNat, Nat.reduceMul, eq_self, implies_true, forall_const, Bool.not_true]
  refine CallW.sc (p78 N.ni G.ni _ _ f0 e0 q0 k0 l1 (by omega)) rfl ⟨trivial, trivial, trivial⟩ fun r ⟨b, hr, hb⟩ => ⟨by subst hr; rfl, ?_⟩
  obtain rfl : b = true := hb.2 ⟨eG1.symm, fun i hi => (hS.inn i hi).symm⟩
  subst hr
  simp -implicitDefEqProofs only [vqa, Nat.reduceEqDiff, Nat.reduceAdd, reduceIte, Nat.reduceLeDiff, Nat.reduceBEq, Nat.reduceLT, Nat.reduceSub, Int.reduceLT, Int.reduceLE, Int.reduceEq, Int.reduceToNat, Nat.reduceMul, eq_self, implies_true, forall_const, Bool.not_true]
  refine CallW.sc (p78 N.no G.no _ _ f1 e1 q1 k1 l4 (by omega)) rfl ⟨trivial, trivial, trivial⟩ fun r ⟨b, hr, hb⟩ => ⟨by subst hr; rfl, ?_⟩
  obtain rfl : b = true := hb.2 ⟨eG3.symm, fun i hi => (hS.out i hi).symm⟩
  subst hr
  simp -implicitDefEqProofs only [vqa, Nat.reduceEqDiff, Nat.reduceAdd, reduceIte, Nat.reduceLeDiff, Nat.reduceBEq, Nat.reduceLT, Nat.reduceSub, Int.reduceLT, Int.reduceLE, Int.reduceEq, Int.reduceToNat, Nat.reduceMul, eq_self, implies_true, forall_const, Bool.not_true]
  have hw : IntKind.i64.wrap ((G.ni : Int) + (G.nr : Int)) = ((N.ni + N.nf : Nat) : Int) := by rw [eG1, eG2]; exact wI (by omega) (by omega)
  rw [hw]
  have hnn : N.ni + N.nf ≤ 1048576 := by have := gg.ni; have := gg.nr; omega
  generalize hV4 : (mem (B + 4)).ver + 1 = V4
  generalize hV5 : (mem (B + 5)).ver + 1 = V5
  generalize hV10 : (mem (B + 10)).ver + 1 = V10
  refine ⟨fun h7 => ?_, fun h7 => ?_⟩
  · refine vFor 20 (fun i e m => e 11 = .fn 111 [.ptr (B + 4) V4 0, .ptr (B + 10) V10 0, .ptr (B + 5) V5 0] ∧ e 3 = .fn 114 [.ptr o v 0] ∧ e 12 = .int .i64 ((N.ni + N.nf : Nat) : Int) ∧ e 49 = .int .i64 i ∧ m (B + 4) = .var V4 [.fs N.ni f0, .fs N.no f1, .fs N.nf f2, .fs N.ng f3, .fs N.nk f4] ∧ m (B + 10) = .var V10 [.int .i64 (G.ni : Nat)] ∧ m (B + 5) = .var V5 [.fs G.ni e0, .fs G.no e1, .fs G.nr e2, .fs G.na e3, .fs G.nk e4] ∧ (∃ s', m o = .var v [.int .u64 s']) ∧ ∀ k, k < B → k ≠ o → m k = mem k) ?_ ?_ ?_
    · simp -implicitDefEqProofs only [vqa, Nat.reduceEqDiff, Nat.reduceAdd, reduceIte, Nat.reduceLeDiff, Nat.reduceBEq, Nat.reduceLT, Nat.reduceSub, Int.reduceLT, Int.reduceLE, Int.reduceEq, Int.reduceToNat, Nat.reduceMul, eq_self, implies_true, forall_const, bNe' ho, bNe ho]
      exact ⟨⟨_, hm⟩, fun k hk hne => by rw [if_neg (by omega), if_neg (by omega), if_neg (by omega), if_neg (by omega)]⟩
    · rintro i e m hi hi' ⟨h11, h3, h12, h49, m4, m10, m5, ⟨s', mo⟩, hF⟩
      have hi2 : (i : Int) < 20 := by omega
      unfold b56_0
      simp -implicitDefEqProofs only [vqa, Nat.reduceEqDiff, Nat.reduceAdd, reduceIte, Nat.reduceLeDiff, Nat.reduceBEq, Nat.reduceLT, Nat.reduceSub, Int.reduceLT, Int.reduceLE, Int.reduceEq, Int.reduceToNat, Nat.reduceMul, eq_self, implies_true, forall_const, h11, h3, h12, h49, hi2]
      refine (p114 (B + 1000) (N.ni + N.nf) hnn (by omega) mo).mono fun r m' ⟨v', s2, hm', hv, hA, hK⟩ => ?_
      obtain ⟨t1, t2, t3⟩ : r.okv = true ∧ r.cells = [r] ∧ r.isCell = true := by rcases hA with ⟨_, rfl⟩ | ⟨_, _, rfl, _⟩ <;> exact ⟨rfl, rfl, rfl⟩
      simp -implicitDefEqProofs only [vqa, Nat.reduceEqDiff, Nat.reduceAdd, reduceIte, Nat.reduceLeDiff, Nat.reduceBEq, Nat.reduceLT, Nat.reduceSub, Int.reduceLT, Int.reduceLE, Int.reduceEq, Int.reduceToNat, Nat.reduceMul, eq_self, implies_true, forall_const, h11, h3, h12, h49, t1, t2, t3]
      obtain ⟨cA, vA, mA, za, zb, ⟨fo, zc, zd⟩, ze⟩ := hA.frz
      refine CallW.frzK 0 (show 0 < 4 by decide) za zb ?_
      simp only [List.set, zc]
      have j4 : mA (B + 4) = _ := (ze (B + 4) (by omega)).trans ((hK (B + 4) (by omega) (by omega)).trans m4)
      have j5 : mA (B + 5) = _ := (ze (B + 5) (by omega)).trans ((hK (B + 5) (by omega) (by omega)).trans m5)
      have j10 : mA (B + 10) = _ := (ze (B + 10) (by omega)).trans ((hK (B + 10) (by omega) (by omega)).trans m10)
      have jo : mA o = _ := (ze o (by omega)).trans hm'
      subst hv
      refine (p111 hN0 ok gd hG0 gok gg hS j4 (by rw [j10, eG1]) j5 fo rfl zd).mono fun r m2 ⟨hr, hm2⟩ => ?_
      subst hr
      subst hm2
      simp -implicitDefEqProofs only [vqa, Nat.reduceEqDiff, Nat.reduceAdd, reduceIte, Nat.reduceLeDiff, Nat.reduceBEq, Nat.reduceLT, Nat.reduceSub, Int.reduceLT, Int.reduceLE, Int.reduceEq, Int.reduceToNat, Nat.reduceMul, eq_self, implies_true, forall_const, h11, h3, h12, h49, j4, j5, j10, jo, Bool.not_true]
      exact ⟨hi, wI (by omega) (by omega), ⟨_, rfl⟩, fun k hk hne => (ze k (by omega)).trans ((hK k (by omega) hne).trans (hF k hk hne))⟩
    · rintro e m ⟨h11, h3, h12, h49, m4, m10, m5, ⟨s', mo⟩, hF⟩
      have h49' : e 49 = .int .i64 20 := h49
      unfold b56_0
      simp -implicitDefEqProofs only [vqa, Nat.reduceEqDiff, Nat.reduceAdd, reduceIte, Nat.reduceLeDiff, Nat.reduceBEq, Nat.reduceLT, Nat.reduceSub, Int.reduceLT, Int.reduceLE, Int.reduceEq, Int.reduceToNat, Nat.reduceMul, eq_self, implies_true, forall_const, h11, h3, h12, h49']
      exact hF
  · obtain ⟨q1, q2⟩ := shl7 (N.ni + N.nf) (by omega)
    rw [q1]
    refine ⟨by omega, ?_⟩
    refine vFor (2 ^ (N.ni + N.nf)) (fun i e m => e 11 = .fn 111 [.ptr (B + 4) V4 0, .ptr (B + 10) V10 0, .ptr (B + 5) V5 0] ∧ e 12 = .int .i64 ((N.ni + N.nf : Nat) : Int) ∧ e 59 = .int .i64 ((2 ^ (N.ni + N.nf) : Nat) : Int) ∧ e 60 = .int .i64 i ∧ m (B + 4) = .var V4 [.fs N.ni f0, .fs N.no f1, .fs N.nf f2, .fs N.ng f3, .fs N.nk f4] ∧ m (B + 10) = .var V10 [.int .i64 (G.ni : Nat)] ∧ m (B + 5) = .var V5 [.fs G.ni e0, .fs G.no e1, .fs G.nr e2, .fs G.na e3, .fs G.nk e4] ∧ ∀ k, k < B → k ≠ o → m k = mem k) ?_ ?_ ?_
    · simp -implicitDefEqProofs only [vqa, Nat.reduceEqDiff, Nat.reduceAdd, reduceIte, Nat.reduceLeDiff, Nat.reduceBEq, Nat.reduceLT, Nat.reduceSub, Int.reduceLT, Int.reduceLE, Int.reduceEq, Int.reduceToNat, Nat.reduceMul, eq_self, implies_true, forall_const]
      exact fun k hk hne => by rw [if_neg (by omega), if_neg (by omega), if_neg (by omega), if_neg (by omega)]
    · rintro i e m hi hi' ⟨h11, h12, h59, h60, m4, m10, m5, hF⟩
      unfold b56_1
      simp -implicitDefEqProofs only [vqa, Nat.reduceEqDiff, Nat.reduceAdd, reduceIte, Nat.reduceLeDiff, Nat.reduceBEq, Nat.reduceLT, Nat.reduceSub, Int.reduceLT, Int.reduceLE, Int.reduceEq, Int.reduceToNat, Nat.reduceMul, eq_self, implies_true, forall_const, h11, h12, h59, h60, hi']
      refine CallW.fz (p113 i (N.ni + N.nf) hnn) rfl rfl fun r ⟨f, hr, hf⟩ => ⟨by subst hr; rfl, ?_⟩
      subst hr
      simp -implicitDefEqProofs only [vqa, Nat.reduceEqDiff, Nat.reduceAdd, reduceIte, Nat.reduceLeDiff, Nat.reduceBEq, Nat.reduceLT, Nat.reduceSub, Int.reduceLT, Int.reduceLE, Int.reduceEq, Int.reduceToNat, Nat.reduceMul, eq_self, implies_true, forall_const, h11, h12, h59, h60]
      refine (p111 hN0 ok gd hG0 gok gg hS m4 (by rw [m10, eG1]) m5 f rfl hf).mono fun r m2 ⟨hr, hm2⟩ => ?_
      subst hr
      subst hm2
      simp -implicitDefEqProofs only [vqa, Nat.reduceEqDiff, Nat.reduceAdd, reduceIte, Nat.reduceLeDiff, Nat.reduceBEq, Nat.reduceLT, Nat.reduceSub, Int.reduceLT, Int.reduceLE, Int.reduceEq, Int.reduceToNat, Nat.reduceMul, eq_self, implies_true, forall_const, h11, h12, h59, h60, m4, m5, m10, Bool.not_true]
      exact ⟨hi, wI (by omega) (by omega), hF⟩
    · rintro e m ⟨h11, h12, h59, h60, m4, m10, m5, hF⟩
      unfold b56_1
      simp -implicitDefEqProofs only [vqa, Nat.reduceEqDiff, Nat.reduceAdd, reduceIte, Nat.reduceLeDiff, Nat.reduceBEq, Nat.reduceLT, Nat.reduceSub, Int.reduceLT, Int.reduceLE, Int.reduceEq, Int.reduceToNat, Nat.reduceMul, eq_self, implies_true, forall_const, h11, h12, h59, h60]
      exact hF
end Go.Ab
namespace Go.Ab
open Go
def a12_0 : AC := (.seq (.ops [⟨(some 39), none, (.v (.bin .lss (.t 38) (.t 37)))⟩]) (.seq (.cond (.t 39) .skip (.exit 0)) (.seq (.block 1 (.seq (.ops [⟨(some 40), none, (.v (.idx 3 (.t 36) (.t 38)))⟩, ⟨(some 41), none, (.v (.load 3 true (.t 40)))⟩, ⟨(some 10), none, (.e (.alloc 10 [(.int .i64 0), (.int .u64 0), .cap0]))⟩, ⟨none, none, (.e (.store 3 (.t 10) (.t 41)))⟩]) (.ops [⟨(some 42), none, (.v (.mv (.t 8)))⟩, ⟨(some 43), none, (.v (.fld 2 (.t 10)))⟩, ⟨(some 44), none, (.v (.load 1 false (.t 43)))⟩, ⟨(some 45), none, (.v (.len (.t 44)))⟩, ⟨(some 46), none, (.v (.bin .shl (.c (.int .i64 1)) (.t 45)))⟩, ⟨(some 47), none, (.v (.bin .sub (.t 46) (.c (.int .i64 1))))⟩, ⟨(some 48), none, (.v (.bin .mul (.c (.int .i64 3)) (.t 47)))⟩, ⟨(some 49), none, (.v (.bin .add (.t 42) (.t 48)))⟩, ⟨(some 8), none, (.v (.mv (.t 49)))⟩]))) (.ops [⟨(some 50), none, (.v (.bin .add (.t 38) (.c (.int .i64 1))))⟩, ⟨(some 38), none, (.v (.mv (.t 50)))⟩]))))
def a12 : AC := (.seq (.ops [⟨(some 2), none, (.e (.box 2 0 (.t 0)))⟩, ⟨(some 4), none, (.v (.mv (.c (.bool false))))⟩]) (.seq (.ops [⟨(some 12), none, (.v (.load 5 true (.t 2)))⟩, ⟨(some 13), none, (.call (.c (.fn 53 [])) [(.t 12)])⟩, ⟨(some 11), none, (.v (.mv (.t 13)))⟩, ⟨(some 14), none, (.v (.ext 0 (.t 11)))⟩, ⟨(some 15), none, (.v (.ext 1 (.t 11)))⟩, ⟨(some 5), none, (.e (.alloc 5 [.cap0, .cap0, .cap0, .cap0, .cap0]))⟩, ⟨none, none, (.e (.store 5 (.t 5) (.t 14)))⟩, ⟨(some 6), none, (.v (.mv (.t 15)))⟩]) (.seq (.seq (.ops [⟨(some 16), none, (.v (.load 5 true (.t 2)))⟩, ⟨(some 17), none, (.call (.c (.fn 19 [])) [(.t 16)])⟩, ⟨(some 7), none, (.v (.mv (.t 17)))⟩]) (.seq (.ops [⟨(some 18), none, (.v (.mv (.t 7)))⟩, ⟨(some 19), none, (.v (.bin .neq (.t 18) (.c (.int .i64 0))))⟩]) (.cond (.t 19) (.seq (.ops [⟨(some 20), none, (.call (.c (.fn 16 [])) [])⟩, ⟨(some 21), none, (.v (.mv (.t 20)))⟩, ⟨(some 22), (some (21, true)), (.v (.mv (.t 6)))⟩, ⟨(some 23), (some (21, true)), (.v (.mv (.t 7)))⟩, ⟨(some 24), (some (21, true)), (.v (.bin .eql (.t 22) (.t 23)))⟩, ⟨(some 25), none, (.v (.pick (.t 21) (.t 24) (.c (.bool false))))⟩, ⟨(some 26), none, (.v (.mv (.t 25)))⟩, ⟨(some 27), (some (26, true)), (.v (.load 5 true (.t 5)))⟩, ⟨(some 28), (some (26, true)), (.v (.build [.cap0, .cap0, .cap0, .cap0, .cap0] []))⟩, ⟨(some 29), (some (26, true)), (.call (.c (.fn 54 [])) [(.t 27), (.t 28)])⟩, ⟨(some 30), none, (.v (.pick (.t 26) (.t 29) (.c (.bool false))))⟩, ⟨(some 4), none, (.v (.mv (.t 30)))⟩]) .ret) .skip))) (.seq (.ops [⟨(some 31), none, (.v (.fld 2 (.t 2)))⟩, ⟨(some 32), none, (.v (.load 1 false (.t 31)))⟩, ⟨(some 33), none, (.v (.len (.t 32)))⟩, ⟨(some 34), none, (.v (.bin .mul (.c (.int .i64 3)) (.t 33)))⟩, ⟨(some 8), none, (.v (.mv (.t 34)))⟩]) (.seq (.seq (.ops [⟨(some 35), none, (.v (.fld 3 (.t 2)))⟩, ⟨(some 36), none, (.v (.load 1 false (.t 35)))⟩, ⟨(some 37), none, (.v (.len (.t 36)))⟩, ⟨(some 38), none, (.v (.mv (.c (.int .i64 0))))⟩]) (.block 0 (.loop a12_0))) (.seq (.seq (.ops [⟨(some 51), none, (.v (.mv (.t 6)))⟩, ⟨(some 52), none, (.v (.bin .eql (.t 51) (.c (.int .i64 3))))⟩]) (.cond (.t 52) (.seq (.ops [⟨(some 53), none, (.call (.c (.fn 16 [])) [])⟩, ⟨(some 54), none, (.v (.mv (.t 53)))⟩, ⟨(some 55), (some (54, true)), (.v (.mv (.t 8)))⟩, ⟨(some 56), (some (54, true)), (.v (.bin .gtr (.t 55) (.c (.int .i64 4000))))⟩, ⟨(some 57), none, (.v (.pick (.t 54) (.t 56) (.c (.bool false))))⟩, ⟨(some 58), none, (.v (.mv (.t 57)))⟩, ⟨(some 59), (some (58, true)), (.v (.load 5 true (.t 5)))⟩, ⟨(some 60), (some (58, true)), (.v (.build [.cap0, .cap0, .cap0, .cap0, .cap0] []))⟩, ⟨(some 61), (some (58, true)), (.call (.c (.fn 54 [])) [(.t 59), (.t 60)])⟩, ⟨(some 62), none, (.v (.pick (.t 58) (.t 61) (.c (.bool false))))⟩, ⟨(some 4), none, (.v (.mv (.t 62)))⟩]) .ret) .skip)) (.seq (.any [⟨(some 63), none, (.call (.c (.fn 16 [])) [])⟩, ⟨(some 64), none, (.v (.mv (.t 63)))⟩, ⟨(some 65), (some (64, true)), (.v (.mv (.t 6)))⟩, ⟨(some 66), (some (64, true)), (.v (.bin .eql (.t 65) (.c (.int .i64 0))))⟩, ⟨(some 67), none, (.v (.pick (.t 64) (.t 66) (.c (.bool false))))⟩, ⟨(some 68), none, (.v (.mv (.t 67)))⟩, ⟨(some 69), (some (68, true)), (.v (.load 5 true (.t 5)))⟩, ⟨(some 70), (some (68, true)), (.call (.c (.fn 55 [])) [(.t 69)])⟩, ⟨(some 71), (some (68, true)), (.v (.bin .eql (.t 70) (.c (.int .i64 0))))⟩, ⟨(some 72), none, (.v (.pick (.t 68) (.t 71) (.c (.bool false))))⟩, ⟨(some 73), none, (.v (.mv (.t 72)))⟩, ⟨(some 74), (some (73, true)), (.v (.load 5 true (.t 2)))⟩, ⟨(some 75), (some (73, true)), (.v (.load 5 true (.t 5)))⟩, ⟨(some 76), (some (73, true)), (.v (.mv (.t 1)))⟩, ⟨(some 77), (some (73, true)), (.call (.c (.fn 57 [])) [(.t 76)])⟩, ⟨(some 78), (some (73, true)), (.call (.c (.fn 56 [])) [(.t 74), (.t 75), (.c (.int .i64 7)), (.t 77)])⟩, ⟨(some 79), none, (.v (.pick (.t 73) (.t 78) (.c (.bool false))))⟩, ⟨(some 4), none, (.v (.mv (.t 79)))⟩] [[], [0, 0], [1], [2, 1], [1, 3], [4, 1], [5], [6, 5, 5], [7, 5], [5, 8], [9, 7], [10], [10], [10], [13, 10, 10], [11, 12, 14, 14, 10], [10, 15], [16, 15, 0, 1, 2, 3, 4, 5, 6, 7, 8, 9, 10, 11, 12, 13, 14, 15, 16]]) .ret)))))))
def r12 : List AI := [(.mv (.t 4))]
theorem f12 : Fn PP 12 2 a12 r12 := Fn.of (fn := Go.Proofs.Try.f12) (by kernel_rfl) (by kernel_rfl) (by kernel_rfl)
theorem shl6 (n : Nat) (h : n ≤ 6) : IntKind.i64.wrap (1 * 2 ^ min n 64) = ((2 ^ n : Nat) : Int) ∧ 2 ^ n ≤ 64 ∧ 1 ≤ 2 ^ n := by
  have : n = 0 ∨ n = 1 ∨ n = 2 ∨ n = 3 ∨ n = 4 ∨ n = 5 ∨ n = 6 := by omega
  rcases this with rfl | rfl | rfl | rfl | rfl | rfl | rfl <;> exact ⟨by decide, by decide, by decide⟩
theorem budN_le {N : Net} (gd : N.Good) : ∀ i, i ≤ N.ng → budN N i ≤ 189 * i
  | 0, _ => Nat.le_refl _
  | i + 1, h => by
    have := budN_le gd i (by omega)
    obtain ⟨_, q2, q3⟩ := shl6 (N.gate i).n (gd.ins i (by omega)).1
    have e : budN N (i + 1) = budN N i + tc (N.gate i).n := rfl
    rw [e, tc_val]; omega
theorem p12 {N : Net} {cs : List AV} (hN : NetC cs N) (ok : N.Ok) (s : Int) : Pure PP 12 [.agg cs, .int .u64 s] fun r => r = .bool true := by
  have hN0 := hN
  obtain ⟨f0, f1, f2, f3, f4, rfl, g0, g1, g2, g3, g4⟩ := hN
  have hni := ok.ni; have hno := ok.no; have hnf := ok.nf; have hng := ok.ng; have hnk := ok.nk
  refine Fn.pure fmix f12 ?_
  unfold a12 r12
  simp -implicitDefEqProofs only [vqa, Nat.reduceEqDiff, Nat.reduceAdd, reduceIte, Nat.reduceLeDiff, Nat.reduceBEq, Nat.reduceLT, Nat.reduceSub, Int.reduceLT, Int.reduceLE, Int.reduceEq, Int.reduceToNat, Nat.reduceMul, eq_self, implies_true, forall_const]
  refine CallW.fz (p53 hN0 ok) rfl rfl fun r ⟨ds, e, hr, hr1, hr2, hr3⟩ => ?_
  obtain ⟨n0, n1, n2, n3, n4, u0, u1, u2, u3, u4, hds⟩ : ∃ n0 n1 n2 n3 n4 u0 u1 u2 u3 u4, ds = [.fs n0 u0, .fs n1 u1, .fs n2 u2, .fs n3 u3, .fs n4 u4] := by
    by_cases he : e = 0
    · by_cases hF : formF N = 0
      · rcases hr3 hF with ⟨h3, _⟩ | ⟨_, G, ⟨u0, u1, u2, u3, u4, hd, _⟩, _⟩
        · omega
        · exact ⟨_, _, _, _, _, u0, u1, u2, u3, u4, hd⟩
      · exact absurd ((hr2 hF).symm.trans he) hF
    · obtain ⟨h0, h1, h2, h3, h4, hd⟩ := hr1 he
      exact ⟨0, 0, 0, 0, 0, h0, h1, h2, h3, h4, hd⟩
  subst hds
  subst hr
  refine ⟨rfl, ?_⟩
  simp -implicitDefEqProofs only [vqa, Nat.reduceEqDiff, Nat.reduceAdd, reduceIte, Nat.reduceLeDiff, Nat.reduceBEq, Nat.reduceLT, Nat.reduceSub, Int.reduceLT, Int.reduceLE, Int.reduceEq, Int.reduceToNat, Nat.reduceMul, eq_self, implies_true, forall_const]
  refine CallW.sc (p19 hN0 ok) rfl ⟨⟨trivial, trivial, trivial, trivial, trivial, trivial⟩, trivial⟩ fun r hr => ⟨by subst hr; rfl, ?_⟩
  subst hr
  simp -implicitDefEqProofs only [vqa, Nat.reduceEqDiff, Nat.reduceAdd, reduceIte, Nat.reduceLeDiff, Nat.reduceBEq, Nat.reduceLT, Nat.reduceSub, Int.reduceLT, Int.reduceLE, Int.reduceEq, Int.reduceToNat, Nat.reduceMul, eq_self, implies_true, forall_const]
  refine ⟨fun hF => ?_, fun hF => ?_⟩
  · have he := hr2 hF
    obtain ⟨h0, h1, h2, h3, h4, hd⟩ := hr1 (by rw [he]; exact hF)
    simp only [List.cons.injEq, AV.fs.injEq, and_true] at hd
    obtain ⟨⟨rfl, rfl⟩, ⟨rfl, rfl⟩, ⟨rfl, rfl⟩, ⟨rfl, rfl⟩, rfl, rfl⟩ := hd
    subst he
    refine CallW.sc p16 rfl trivial fun r hr => ⟨by subst hr; rfl, ?_⟩
    subst hr
    simp -implicitDefEqProofs only [vqa, Nat.reduceEqDiff, Nat.reduceAdd, reduceIte, Nat.reduceLeDiff, Nat.reduceBEq, Nat.reduceLT, Nat.reduceSub, Int.reduceLT, Int.reduceLE, Int.reduceEq, Int.reduceToNat, Nat.reduceMul, eq_self, implies_true, forall_const]
    refine CallW.fz (p54 (nilG_c u0 u1 u2 u3 u4) nilG_ok (nilG_c _ _ _ _ _) nilG_ok) rfl rfl fun r ⟨b, hr, hb⟩ => ⟨by subst hr; rfl, ?_⟩
    obtain rfl : b = true := hb.2 (sameG_refl _)
    subst hr
    simp -implicitDefEqProofs only [vqa, Nat.reduceEqDiff, Nat.reduceAdd, reduceIte, Nat.reduceLeDiff, Nat.reduceBEq, Nat.reduceLT, Nat.reduceSub, Int.reduceLT, Int.reduceLE, Int.reduceEq, Int.reduceToNat, Nat.reduceMul, eq_self, implies_true, forall_const]
  · have hF : formF N = 0 := by omega
    have gd := Net.good hF
    have hw0 : IntKind.i64.wrap (3 * (N.nf : Int)) = ((3 * N.nf + budN N 0 : Nat) : Int) := by
      have e : budN N 0 = 0 := rfl
      rw [e, Nat.add_zero]
      rw [wI (by omega) (by omega)]; omega
    rw [hw0]
    refine vFor N.ng (fun i e' m => e' 1 = .int .u64 s ∧ e' 2 = .ptr 2 ((mem0 2).ver + 1) 0 ∧ e' 5 = .ptr 5 ((mem0 5).ver + 1) 0 ∧ e' 6 = .int .i64 e ∧ e' 8 = .int .i64 ((3 * N.nf + budN N i : Nat) : Int) ∧ e' 36 = .fs N.ng f3 ∧ e' 37 = .int .i64 N.ng ∧ e' 38 = .int .i64 i ∧ m 2 = .var ((mem0 2).ver + 1) [.fs N.ni f0, .fs N.no f1, .fs N.nf f2, .fs N.ng f3, .fs N.nk f4] ∧ m 5 = .var ((mem0 5).ver + 1) [.fs n0 u0, .fs n1 u1, .fs n2 u2, .fs n3 u3, .fs n4 u4]) ?_ ?_ ?_
    · simp -implicitDefEqProofs only [vqa, Nat.reduceEqDiff, Nat.reduceAdd, reduceIte, Nat.reduceLeDiff, Nat.reduceBEq, Nat.reduceLT, Nat.reduceSub, Int.reduceLT, Int.reduceLE, Int.reduceEq, Int.reduceToNat, Nat.reduceMul, eq_self, implies_true, forall_const]
    · rintro i e' m hi hi' ⟨h1, h2, h5, h6, h8, h36, h37, h38, m2, m5⟩
      obtain ⟨q, hq, hq2⟩ := g3 i hi
      unfold a12_0
      simp -implicitDefEqProofs only [vqa, Nat.reduceEqDiff, Nat.reduceAdd, reduceIte, Nat.reduceLeDiff, Nat.reduceBEq, Nat.reduceLT, Nat.reduceSub, Int.reduceLT, Int.reduceLE, Int.reduceEq, Int.reduceToNat, Nat.reduceMul, eq_self, implies_true, forall_const, restr_two1, restr_two2, agree_two, h1, h2, h5, h6, h8, h36, h37, h38, m2, m5, hi', hq]
      obtain ⟨q1, q2, q3⟩ := shl6 (N.gate i).n (gd.ins i hi).1
      have hb := budN_le gd i (by omega)
      have hg := gd.ng; have hf := gd.nf
      have eb : budN N (i + 1) = budN N i + 3 * (2 ^ (N.gate i).n - 1) := by rw [← tc_val]; rfl
      refine ⟨by omega, by omega, hi, ?_, wI (by omega) (by omega)⟩
      rw [q1, eb]
      generalize 2 ^ (N.gate i).n = P at *
      rw [wI (n := (P : Int) - 1) (by omega) (by omega), wI (n := 3 * ((P : Int) - 1)) (by omega) (by omega), wI (by omega) (by omega)]
      omega
    · rintro e' m ⟨h1, h2, h5, h6, h8, h36, h37, h38, m2, m5⟩
      unfold a12_0
      simp -implicitDefEqProofs only [vqa, Nat.reduceEqDiff, Nat.reduceAdd, reduceIte, Nat.reduceLeDiff, Nat.reduceBEq, Nat.reduceLT, Nat.reduceSub, Int.reduceLT, Int.reduceLE, Int.reduceEq, Int.reduceToNat, Nat.reduceMul, eq_self, implies_true, forall_const, restr_two1, restr_two2, agree_two, h1, h2, h5, h6, h8, h36, h37, h38, m2, m5]
      refine ⟨fun h3 => ?_, fun h3 => ?_⟩
      · have hbud : 4000 < budN N N.ng + 3 * N.nf := by
          rcases hr3 hF with ⟨_, q⟩ | ⟨q, _⟩
          · exact q
          · omega
        obtain ⟨h0, h1', h2', h3', h4, hd⟩ := hr1 (by omega)
        simp only [List.cons.injEq, AV.fs.injEq, and_true] at hd
        obtain ⟨⟨rfl, rfl⟩, ⟨rfl, rfl⟩, ⟨rfl, rfl⟩, ⟨rfl, rfl⟩, rfl, rfl⟩ := hd
        refine CallW.sc p16 rfl trivial fun r hr => ⟨by subst hr; rfl, ?_⟩
        subst hr
        have hgt : (4000 : Int) < ((3 * N.nf + budN N N.ng : Nat) : Int) := by omega
        simp -implicitDefEqProofs only [vqa, Nat.reduceEqDiff, Nat.reduceAdd, reduceIte, Nat.reduceLeDiff, Nat.reduceBEq, Nat.reduceLT, Nat.reduceSub, Int.reduceLT, Int.reduceLE, Int.reduceEq, Int.reduceToNat, Nat.reduceMul, eq_self, implies_true, forall_const, restr_two1, restr_two2, agree_two, h1, h2, h5, h6, h8, h36, h37, h38, m2, m5, hgt]
        refine CallW.fz (p54 (nilG_c u0 u1 u2 u3 u4) nilG_ok (nilG_c _ _ _ _ _) nilG_ok) rfl rfl fun r ⟨b, hr, hb⟩ => ⟨by subst hr; rfl, ?_⟩
        obtain rfl : b = true := hb.2 (sameG_refl _)
        subst hr
        simp -implicitDefEqProofs only [vqa, Nat.reduceEqDiff, Nat.reduceAdd, reduceIte, Nat.reduceLeDiff, Nat.reduceBEq, Nat.reduceLT, Nat.reduceSub, Int.reduceLT, Int.reduceLE, Int.reduceEq, Int.reduceToNat, Nat.reduceMul, eq_self, implies_true, forall_const]
      · obtain ⟨rfl, G, hG, gok, hGF, hSV⟩ : e = 0 ∧ ∃ G, GraC [.fs n0 u0, .fs n1 u1, .fs n2 u2, .fs n3 u3, .fs n4 u4] G ∧ G.Ok ∧ graphF G = 0 ∧ SameV N G := by
          rcases hr3 hF with ⟨q, _⟩ | q
          · omega
          · exact q
        have gg := good_of hGF
        refine vAny [0, 1, 2, 3, 4, 5, 6, 7, 8, 9, 10, 11, 12, 13, 14, 15, 16, 17] 18 (twoL 2 5) (by kernel_rfl) (by kernel_rfl) ?_
        simp -implicitDefEqProofs only [vqa, Nat.reduceEqDiff, Nat.reduceAdd, reduceIte, Nat.reduceLeDiff, Nat.reduceBEq, Nat.reduceLT, Nat.reduceSub, Int.reduceLT, Int.reduceLE, Int.reduceEq, Int.reduceToNat, Nat.reduceMul, eq_self, implies_true, forall_const, restr_two1, restr_two2, agree_two, h1, h2, h5, h6, h8, h36, h37, h38, m2, m5]
        refine CallW.sc p16 rfl trivial fun r hr => ⟨by subst hr; rfl, ?_⟩
        subst hr
        simp -implicitDefEqProofs only [vqa, Nat.reduceEqDiff, Nat.reduceAdd, reduceIte, Nat.reduceLeDiff, Nat.reduceBEq, Nat.reduceLT, Nat.reduceSub, Int.reduceLT, Int.reduceLE, Int.reduceEq, Int.reduceToNat, Nat.reduceMul, eq_self, implies_true, forall_const, restr_two1, restr_two2, agree_two, h1, h2, h5, h6, h8, h36, h37, h38, m2, m5]
        refine CallW.sc (p55 hG gok) rfl ⟨⟨trivial, trivial, trivial, trivial, trivial, trivial⟩, trivial⟩ fun r hr => ⟨by subst hr; rfl, ?_⟩
        rw [hGF] at hr
        subst hr
        simp -implicitDefEqProofs only [vqa, Nat.reduceEqDiff, Nat.reduceAdd, reduceIte, Nat.reduceLeDiff, Nat.reduceBEq, Nat.reduceLT, Nat.reduceSub, Int.reduceLT, Int.reduceLE, Int.reduceEq, Int.reduceToNat, Nat.reduceMul, eq_self, implies_true, forall_const, restr_two1, restr_two2, agree_two, h1, h2, h5, h6, h8, h36, h37, h38, m2, m5]
        refine (p57 1000 s).mono fun r m' ⟨v, hr, hm, hK⟩ => ?_
        subst hr
        have m2' := (hK 2 (by decide)).trans m2
        have m5' := (hK 5 (by decide)).trans m5
        simp -implicitDefEqProofs only [vqa, Nat.reduceEqDiff, Nat.reduceAdd, reduceIte, Nat.reduceLeDiff, Nat.reduceBEq, Nat.reduceLT, Nat.reduceSub, Int.reduceLT, Int.reduceLE, Int.reduceEq, Int.reduceToNat, Nat.reduceMul, eq_self, implies_true, forall_const, restr_two1, restr_two2, agree_two, h1, h2, h5, h6, h8, h36, h37, h38, m2', m5']
        refine ⟨⟨m2.symm, m5.symm⟩, ?_⟩
        refine (p56 2000 hN0 ok gd hG gok gg hSV (by decide) hm).mono fun r m3 ⟨hr, hF3⟩ => ?_
        subst hr
        have m2'' := (hF3 2 (by decide) (by decide)).trans m2'
        have m5'' := (hF3 5 (by decide) (by decide)).trans m5'
        simp -implicitDefEqProofs only [vqa, Nat.reduceEqDiff, Nat.reduceAdd, reduceIte, Nat.reduceLeDiff, Nat.reduceBEq, Nat.reduceLT, Nat.reduceSub, Int.reduceLT, Int.reduceLE, Int.reduceEq, Int.reduceToNat, Nat.reduceMul, eq_self, implies_true, forall_const, restr_two1, restr_two2, agree_two, m2'', m5'', m2, m5, h1, h2, h5, h6, h8, h36, h37, h38]
end Go.Ab
