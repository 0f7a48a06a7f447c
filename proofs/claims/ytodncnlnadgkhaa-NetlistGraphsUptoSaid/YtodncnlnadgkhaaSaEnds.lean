/- Walks: the ends of a netlist. -/
import Derived.Test.YtodncnlnadgkhaaSaForm
import Derived.Test.YtodncnlnadgkhaaSaFault
import Derived.Test.YtodncnlnadgkhaaLwLevel
set_option linter.unusedSimpArgs false
set_option linter.unusedVariables false
namespace Go.Ab
open Go
def a84 : AC := (.seq (.ops [⟨(some 2), none, (.v (.mv (.c .cap0)))⟩]) (.seq (.seq (.ops [⟨(some 3), none, (.v (.mv (.t 0)))⟩, ⟨(some 4), none, (.isnil false (.t 3))⟩]) (.cond (.t 4) (.seq (.ops [⟨(some 2), none, (.v (.mv (.c .cap0)))⟩]) .ret) .skip)) (.seq (.ops [⟨(some 5), none, (.e (.lit 5 3 1 0 [(.int .i64 0)] []))⟩, ⟨(some 6), none, (.v (.mv (.t 0)))⟩, ⟨(some 7), none, (.e (.app 7 3 1 8 (.t 5) (.t 6)))⟩, ⟨(some 2), none, (.v (.mv (.t 7)))⟩]) .ret)))
def r84 : List AI := [(.mv (.t 2))]
theorem f84 : Fn PP 84 1 a84 r84 := Fn.of (fn := Go.Proofs.Try.f84) (by kernel_rfl) (by kernel_rfl) (by kernel_rfl)
def a88_0 : AC := (.seq (.ops [⟨(some 13), none, (.v (.bin .lss (.t 12) (.t 11)))⟩]) (.seq (.cond (.t 13) .skip (.exit 0)) (.seq (.block 1 (.seq (.ops [⟨(some 14), none, (.v (.idx 5 (.t 10) (.t 12)))⟩, ⟨(some 15), none, (.v (.load 5 true (.t 14)))⟩, ⟨(some 5), none, (.e (.alloc 5 [(.str ⟨#[]⟩), (.int .i64 0), (.int .i64 0), (.int .i64 0), (.bool false)]))⟩, ⟨none, none, (.e (.store 5 (.t 5) (.t 15)))⟩]) (.ops [⟨(some 16), none, (.v (.mv (.t 3)))⟩, ⟨(some 17), none, (.v (.fld 2 (.t 5)))⟩, ⟨(some 18), none, (.v (.load 1 false (.t 17)))⟩, ⟨(some 19), none, (.v (.fld 3 (.t 5)))⟩, ⟨(some 20), none, (.v (.load 1 false (.t 19)))⟩, ⟨(some 21), none, (.e (.lit 21 3 1 2 [(.int .i64 0)] [(0, (.t 18)), (1, (.t 20))]))⟩, ⟨(some 22), none, (.e (.app 22 3 1 8 (.t 16) (.t 21)))⟩, ⟨(some 3), none, (.v (.mv (.t 22)))⟩]))) (.ops [⟨(some 23), none, (.v (.bin .add (.t 12) (.c (.int .i64 1))))⟩, ⟨(some 12), none, (.v (.mv (.t 23)))⟩]))))
def a88 : AC := (.seq (.ops [⟨(some 1), none, (.e (.box 1 0 (.t 0)))⟩, ⟨(some 2), none, (.v (.mv (.c .cap0)))⟩]) (.seq (.ops [⟨(some 6), none, (.v (.fld 4 (.t 1)))⟩, ⟨(some 7), none, (.v (.load 1 false (.t 6)))⟩, ⟨(some 8), none, (.call (.c (.fn 84 [])) [(.t 7)])⟩, ⟨(some 3), none, (.v (.mv (.t 8)))⟩]) (.seq (.seq (.ops [⟨(some 9), none, (.v (.fld 2 (.t 1)))⟩, ⟨(some 10), none, (.v (.load 1 false (.t 9)))⟩, ⟨(some 11), none, (.v (.len (.t 10)))⟩, ⟨(some 12), none, (.v (.mv (.c (.int .i64 0))))⟩]) (.block 0 (.loop a88_0))) (.seq (.ops [⟨(some 24), none, (.v (.mv (.t 3)))⟩, ⟨(some 2), none, (.v (.mv (.t 24)))⟩]) .ret))))
def r88 : List AI := [(.mv (.t 2))]
theorem f88 : Fn PP 88 1 a88 r88 := Fn.of (fn := Go.Proofs.Try.f88) (by kernel_rfl) (by kernel_rfl) (by kernel_rfl)
def a89_0 : AC := (.seq (.ops [⟨(some 14), none, (.v (.bin .lss (.t 13) (.t 12)))⟩]) (.seq (.cond (.t 14) .skip (.exit 0)) (.seq (.block 1 (.seq (.ops [⟨(some 15), none, (.v (.idx 5 (.t 11) (.t 13)))⟩, ⟨(some 16), none, (.v (.load 5 true (.t 15)))⟩, ⟨(some 5), none, (.e (.alloc 5 [(.str ⟨#[]⟩), (.int .i64 0), (.int .i64 0), (.int .i64 0), (.bool false)]))⟩, ⟨none, none, (.e (.store 5 (.t 5) (.t 16)))⟩]) (.ops [⟨(some 17), none, (.v (.mv (.t 3)))⟩, ⟨(some 18), none, (.v (.fld 2 (.t 5)))⟩, ⟨(some 19), none, (.v (.load 1 false (.t 18)))⟩, ⟨(some 20), none, (.v (.fld 3 (.t 5)))⟩, ⟨(some 21), none, (.v (.load 1 false (.t 20)))⟩, ⟨(some 22), none, (.e (.lit 22 3 1 2 [(.int .i64 0)] [(0, (.t 19)), (1, (.t 21))]))⟩, ⟨(some 23), none, (.e (.app 23 3 1 8 (.t 17) (.t 22)))⟩, ⟨(some 3), none, (.v (.mv (.t 23)))⟩]))) (.ops [⟨(some 24), none, (.v (.bin .add (.t 13) (.c (.int .i64 1))))⟩, ⟨(some 13), none, (.v (.mv (.t 24)))⟩]))))
def a89 : AC := (.seq (.ops [⟨(some 1), none, (.e (.box 1 0 (.t 0)))⟩, ⟨(some 2), none, (.v (.mv (.c .cap0)))⟩]) (.seq (.ops [⟨(some 6), none, (.e (.lit 6 3 1 0 [(.int .i64 0)] []))⟩, ⟨(some 7), none, (.v (.fld 4 (.t 1)))⟩, ⟨(some 8), none, (.v (.load 1 false (.t 7)))⟩, ⟨(some 9), none, (.e (.app 9 3 1 8 (.t 6) (.t 8)))⟩, ⟨(some 3), none, (.v (.mv (.t 9)))⟩]) (.seq (.seq (.ops [⟨(some 10), none, (.v (.fld 2 (.t 1)))⟩, ⟨(some 11), none, (.v (.load 1 false (.t 10)))⟩, ⟨(some 12), none, (.v (.len (.t 11)))⟩, ⟨(some 13), none, (.v (.mv (.c (.int .i64 0))))⟩]) (.block 0 (.loop a89_0))) (.seq (.ops [⟨(some 25), none, (.v (.mv (.t 3)))⟩, ⟨(some 2), none, (.v (.mv (.t 25)))⟩]) .ret))))
def r89 : List AI := [(.mv (.t 2))]
theorem f89 : Fn PP 89 1 a89 r89 := Fn.of (fn := Go.Proofs.Try.f89) (by kernel_rfl) (by kernel_rfl) (by kernel_rfl)
theorem p84 (n : Nat) (x : Nat → Int) (f : Nat → AV) (hf : ∀ i, i < n → f i = .int .i64 (x i)) (hn : n ≤ 1048576) : CallW PP 84 [.fs n f] mem0 fun r m => (r = .cap0 ∧ n = 0) ∨ ∃ id ver e sz n' g, r = .sl id ver n' ∧ m id = .row ver e sz n' g ∧ (n' = n ∧ e = 3 ∧ sz = 1 ∧ ∀ i, i < n → g i = .int .i64 (x i)) := by
  refine Fn.call fmix f84 ?_
  unfold a84 r84
  simp -implicitDefEqProofs only [vqa, Nat.reduceEqDiff, Nat.reduceAdd, reduceIte, Nat.reduceLeDiff, Nat.reduceBEq, Nat.reduceLT, Nat.reduceSub, Int.reduceLT, Int.reduceLE, Int.reduceEq, Int.reduceToNat, Nat.reduceMul, eq_self, implies_true, forall_const]
  refine ⟨?_, fun h => .inl h⟩
  refine ⟨⟨fun i hi => ?_, by omega, by omega⟩, .inr ⟨_, _, _, _, _, _, rfl, if_pos rfl, rfl, rfl, rfl, hf⟩⟩
  rw [hf i hi]; exact ⟨rfl, rfl⟩

/-- The nets that count, gathered. -/
theorem p88 {N : Net} {cs : List AV} (hN : NetC cs N) (ok : N.Ok) : Pure PP 88 [.agg cs] fun r => ∃ f, r = .fs (N.nk + 2 * N.nf) f ∧ ∀ i, i < N.nk + 2 * N.nf → f i = .int .i64 (ends N i) := by
  obtain ⟨f0, f1, f2, f3, f4, rfl, g0, g1, g2, g3, g4⟩ := hN
  have hnf := ok.nf; have hnk := ok.nk
  refine Fn.pure fmix f88 ?_
  unfold a88 r88
  simp -implicitDefEqProofs only [vqa, Nat.reduceEqDiff, Nat.reduceAdd, reduceIte, Nat.reduceLeDiff, Nat.reduceBEq, Nat.reduceLT, Nat.reduceSub, Int.reduceLT, Int.reduceLE, Int.reduceEq, Int.reduceToNat, Nat.reduceMul, eq_self, implies_true, forall_const]
  refine (CallW.own0 (K := fun v m => Acc 22 3 1 N.nk (fun i a => a = .int .i64 (ends N i)) v m ∧ m 1 = .var ((mem0 1).ver + 1) [.fs N.ni f0, .fs N.no f1, .fs N.nf f2, .fs N.ng f3, .fs N.nk f4]) 22 (p84 N.nk N.outs f4 g4 hnk) rfl rfl (fun h => ⟨.inl ⟨h, rfl⟩, rfl⟩) (fun e sz n g ⟨h1, h2, h3, h5⟩ => ?_)).mono fun v m ⟨hA, hm⟩ => ?_
  · subst h1; subst h2; subst h3
    refine ⟨.inr ⟨_, g, rfl, set_same _ _ _, fun j hj => ?_⟩, rfl⟩
    show g j = .int .i64 (ends N j)
    rw [h5 j hj]; unfold ends; rw [if_pos hj]
  simp -implicitDefEqProofs only [vqa, Nat.reduceEqDiff, Nat.reduceAdd, reduceIte, Nat.reduceLeDiff, Nat.reduceBEq, Nat.reduceLT, Nat.reduceSub, Int.reduceLT, Int.reduceLE, Int.reduceEq, Int.reduceToNat, Nat.reduceMul, eq_self, implies_true, forall_const, hm]
  refine vFor N.nf (fun i e m => e 10 = .fs N.nf f2 ∧ e 11 = .int .i64 N.nf ∧ e 12 = .int .i64 i ∧ Acc 22 3 1 (N.nk + 2 * i) (fun i a => a = .int .i64 (ends N i)) (e 3) m) ?_ ?_ ?_
  · simp -implicitDefEqProofs only [vqa, Nat.reduceEqDiff, Nat.reduceAdd, reduceIte, Nat.reduceLeDiff, Nat.reduceBEq, Nat.reduceLT, Nat.reduceSub, Int.reduceLT, Int.reduceLE, Int.reduceEq, Int.reduceToNat, Nat.reduceMul, eq_self, implies_true, forall_const]
    exact hA
  · rintro i e m hi hi' ⟨h10, h11, h12, hA⟩
    unfold a88_0
    have q1 := ends_d N i
    have q2 := ends_en N i
    rcases hA with ⟨hz, h3⟩ | ⟨ver, g, h3, hm3, hg⟩
    · simp -implicitDefEqProofs only [vqa, Nat.reduceEqDiff, Nat.reduceAdd, reduceIte, Nat.reduceLeDiff, Nat.reduceBEq, Nat.reduceLT, Nat.reduceSub, Int.reduceLT, Int.reduceLE, Int.reduceEq, Int.reduceToNat, Nat.reduceMul, eq_self, implies_true, forall_const, h10, h11, h12, h3, hi', g2 i hi, FlopV.av]
      obtain rfl : i = 0 := by omega
      have hz0 : N.nk = 0 := by omega
      rw [hz0] at q1 q2
      refine ⟨by omega, hi, wI (by omega) (by omega), (Acc.first2 (p := fun i a => a = .int .i64 (ends N i)) ?_ ?_).le (show 2 = N.nk + 2 * (0 + 1) by omega)⟩
      · exact congrArg _ q1.symm
      · exact congrArg _ q2.symm
    · simp -implicitDefEqProofs only [vqa, Nat.reduceEqDiff, Nat.reduceAdd, reduceIte, Nat.reduceLeDiff, Nat.reduceBEq, Nat.reduceLT, Nat.reduceSub, Int.reduceLT, Int.reduceLE, Int.reduceEq, Int.reduceToNat, Nat.reduceMul, eq_self, implies_true, forall_const, h10, h11, h12, h3, hm3, hi', g2 i hi, FlopV.av]
      refine ⟨by omega, ⟨by omega, by omega⟩, hi, wI (by omega) (by omega), (Acc.push2 (p := fun i a => a = .int .i64 (ends N i)) hg ?_ ?_).le (show N.nk + 2 * i + 2 = N.nk + 2 * (i + 1) by omega)⟩
      · exact congrArg _ q1.symm
      · exact congrArg _ q2.symm
  · rintro e m ⟨h10, h11, h12, hA⟩
    unfold a88_0
    rcases hA with ⟨hz, h3⟩ | ⟨ver, g, h3, hm3, hg⟩
    · simp -implicitDefEqProofs only [vqa, Nat.reduceEqDiff, Nat.reduceAdd, reduceIte, Nat.reduceLeDiff, Nat.reduceBEq, Nat.reduceLT, Nat.reduceSub, Int.reduceLT, Int.reduceLE, Int.reduceEq, Int.reduceToNat, Nat.reduceMul, eq_self, implies_true, forall_const, h10, h11, h12, h3]
      exact ⟨_, by rw [hz], fun i hi => absurd hi (by omega)⟩
    · simp -implicitDefEqProofs only [vqa, Nat.reduceEqDiff, Nat.reduceAdd, reduceIte, Nat.reduceLeDiff, Nat.reduceBEq, Nat.reduceLT, Nat.reduceSub, Int.reduceLT, Int.reduceLE, Int.reduceEq, Int.reduceToNat, Nat.reduceMul, eq_self, implies_true, forall_const, h10, h11, h12, h3, hm3]
      exact ⟨_, rfl, hg⟩

theorem p89 {N : Net} {cs : List AV} (hN : NetC cs N) (ok : N.Ok) : Pure PP 89 [.agg cs] fun r => ∃ f, r = .fs (N.nk + 2 * N.nf) f ∧ ∀ i, i < N.nk + 2 * N.nf → f i = .int .i64 (ends N i) := by
  obtain ⟨f0, f1, f2, f3, f4, rfl, g0, g1, g2, g3, g4⟩ := hN
  have hnf := ok.nf; have hnk := ok.nk
  refine Fn.pure fmix f89 ?_
  unfold a89 r89
  simp -implicitDefEqProofs only [vqa, Nat.reduceEqDiff, Nat.reduceAdd, reduceIte, Nat.reduceLeDiff, Nat.reduceBEq, Nat.reduceLT, Nat.reduceSub, Int.reduceLT, Int.reduceLE, Int.reduceEq, Int.reduceToNat, Nat.reduceMul, eq_self, implies_true, forall_const]
  have hp : ∀ j, j < N.nk → f4 j = .int .i64 (ends N j) := fun j hj => by rw [g4 j hj]; unfold ends; rw [if_pos hj]
  refine ⟨⟨fun i hi => by rw [hp i hi]; exact ⟨rfl, rfl⟩, by omega, by omega⟩, ?_⟩
  refine vFor N.nf (fun i e m => e 11 = .fs N.nf f2 ∧ e 12 = .int .i64 N.nf ∧ e 13 = .int .i64 i ∧ (Acc 23 3 1 (N.nk + 2 * i) (fun i a => a = .int .i64 (ends N i)) (e 3) m ∨ ∃ ver g, e 3 = .sl 6 ver (N.nk + 2 * i) ∧ m 6 = .row ver 3 1 (N.nk + 2 * i) g ∧ ∀ j, j < N.nk + 2 * i → g j = .int .i64 (ends N j))) ?_ ?_ ?_
  · simp -implicitDefEqProofs only [vqa, Nat.reduceEqDiff, Nat.reduceAdd, reduceIte, Nat.reduceLeDiff, Nat.reduceBEq, Nat.reduceLT, Nat.reduceSub, Int.reduceLT, Int.reduceLE, Int.reduceEq, Int.reduceToNat, Nat.reduceMul, eq_self, implies_true, forall_const]
    exact .inr ⟨_, _, rfl, rfl, fun j hj => hp j hj⟩
  · rintro i e m hi hi' ⟨h11, h12, h13, hA⟩
    unfold a89_0
    have q1 := ends_d N i
    have q2 := ends_en N i
    rcases hA with (⟨hz, h3⟩ | ⟨ver, g, h3, hm3, hg⟩) | ⟨ver, g, h3, hm3, hg⟩
    · simp -implicitDefEqProofs only [vqa, Nat.reduceEqDiff, Nat.reduceAdd, reduceIte, Nat.reduceLeDiff, Nat.reduceBEq, Nat.reduceLT, Nat.reduceSub, Int.reduceLT, Int.reduceLE, Int.reduceEq, Int.reduceToNat, Nat.reduceMul, eq_self, implies_true, forall_const, h11, h12, h13, h3, hi', g2 i hi, FlopV.av]
      obtain rfl : i = 0 := by omega
      have hz0 : N.nk = 0 := by omega
      rw [hz0] at q1 q2
      refine ⟨by omega, hi, wI (by omega) (by omega), .inl ((Acc.first2 (p := fun i a => a = .int .i64 (ends N i)) ?_ ?_).le (show 2 = N.nk + 2 * (0 + 1) by omega))⟩
      · exact congrArg _ q1.symm
      · exact congrArg _ q2.symm
    · simp -implicitDefEqProofs only [vqa, Nat.reduceEqDiff, Nat.reduceAdd, reduceIte, Nat.reduceLeDiff, Nat.reduceBEq, Nat.reduceLT, Nat.reduceSub, Int.reduceLT, Int.reduceLE, Int.reduceEq, Int.reduceToNat, Nat.reduceMul, eq_self, implies_true, forall_const, h11, h12, h13, h3, hm3, hi', g2 i hi, FlopV.av]
      refine ⟨by omega, ⟨by omega, by omega⟩, hi, wI (by omega) (by omega), .inl ((Acc.push2 (p := fun i a => a = .int .i64 (ends N i)) hg ?_ ?_).le (show N.nk + 2 * i + 2 = N.nk + 2 * (i + 1) by omega))⟩
      · exact congrArg _ q1.symm
      · exact congrArg _ q2.symm
    · simp -implicitDefEqProofs only [vqa, Nat.reduceEqDiff, Nat.reduceAdd, reduceIte, Nat.reduceLeDiff, Nat.reduceBEq, Nat.reduceLT, Nat.reduceSub, Int.reduceLT, Int.reduceLE, Int.reduceEq, Int.reduceToNat, Nat.reduceMul, eq_self, implies_true, forall_const, h11, h12, h13, h3, hm3, hi', g2 i hi, FlopV.av]
      refine ⟨by omega, ⟨by omega, by omega⟩, hi, wI (by omega) (by omega), .inr ?_⟩
      obtain ⟨_, h⟩ | ⟨ver', g', h1, h2, h3⟩ := (Acc.push2 (site := 6) (e := 3) (sz := 1) (V := ver + 1) (mem := m) (p := fun i a => a = .int .i64 (ends N i)) hg (congrArg _ q1.symm) (congrArg _ q2.symm)).le (show N.nk + 2 * i + 2 = N.nk + 2 * (i + 1) by omega)
      · cases h
      · cases h1
        exact ⟨_, _, rfl, by simp only [set_same] at h2 ⊢; exact h2, h3⟩
  · rintro e m ⟨h11, h12, h13, hA⟩
    unfold a89_0
    rcases hA with (⟨hz, h3⟩ | ⟨ver, g, h3, hm3, hg⟩) | ⟨ver, g, h3, hm3, hg⟩
    · simp -implicitDefEqProofs only [vqa, Nat.reduceEqDiff, Nat.reduceAdd, reduceIte, Nat.reduceLeDiff, Nat.reduceBEq, Nat.reduceLT, Nat.reduceSub, Int.reduceLT, Int.reduceLE, Int.reduceEq, Int.reduceToNat, Nat.reduceMul, eq_self, implies_true, forall_const, h11, h12, h13, h3]
      exact ⟨_, by rw [hz], fun i hi => absurd hi (by omega)⟩
    · simp -implicitDefEqProofs only [vqa, Nat.reduceEqDiff, Nat.reduceAdd, reduceIte, Nat.reduceLeDiff, Nat.reduceBEq, Nat.reduceLT, Nat.reduceSub, Int.reduceLT, Int.reduceLE, Int.reduceEq, Int.reduceToNat, Nat.reduceMul, eq_self, implies_true, forall_const, h11, h12, h13, h3, hm3]
      exact ⟨_, rfl, hg⟩
    · simp -implicitDefEqProofs only [vqa, Nat.reduceEqDiff, Nat.reduceAdd, reduceIte, Nat.reduceLeDiff, Nat.reduceBEq, Nat.reduceLT, Nat.reduceSub, Int.reduceLT, Int.reduceLE, Int.reduceEq, Int.reduceToNat, Nat.reduceMul, eq_self, implies_true, forall_const, h11, h12, h13, h3, hm3]
      exact ⟨_, rfl, hg⟩

end Go.Ab
