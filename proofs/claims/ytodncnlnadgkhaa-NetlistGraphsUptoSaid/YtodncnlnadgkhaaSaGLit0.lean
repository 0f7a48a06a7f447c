/- Walks: the roots of a graph. -/
import Derived.Test.YtodncnlnadgkhaaSaGSame
import Derived.Test.YtodncnlnadgkhaaSaGFau0
import Derived.Test.YtodncnlnadgkhaaSaMak0
import Derived.Test.YtodncnlnadgkhaaLwGraph
set_option linter.unusedSimpArgs false
set_option linter.unusedVariables false
namespace Go.Ab
open Go
def a140_0 : AC := (.seq (.ops [⟨(some 13), none, (.v (.bin .lss (.t 12) (.t 11)))⟩]) (.seq (.cond (.t 13) .skip (.exit 0)) (.seq (.block 1 (.seq (.ops [⟨(some 14), none, (.v (.idx 3 (.t 10) (.t 12)))⟩, ⟨(some 15), none, (.v (.load 3 true (.t 14)))⟩, ⟨(some 5), none, (.e (.alloc 5 [(.str ⟨#[]⟩), (.int .i64 0), (.bool false)]))⟩, ⟨none, none, (.e (.store 3 (.t 5) (.t 15)))⟩]) (.ops [⟨(some 16), none, (.v (.mv (.t 3)))⟩, ⟨(some 17), none, (.v (.fld 1 (.t 5)))⟩, ⟨(some 18), none, (.v (.load 1 false (.t 17)))⟩, ⟨(some 19), none, (.e (.lit 19 108 1 1 [(.int .i64 0)] [(0, (.t 18))]))⟩, ⟨(some 20), none, (.e (.app 20 108 1 8 (.t 16) (.t 19)))⟩, ⟨(some 3), none, (.v (.mv (.t 20)))⟩]))) (.ops [⟨(some 21), none, (.v (.bin .add (.t 12) (.c (.int .i64 1))))⟩, ⟨(some 12), none, (.v (.mv (.t 21)))⟩]))))
def a140 : AC := (.seq (.ops [⟨(some 1), none, (.e (.box 1 0 (.t 0)))⟩, ⟨(some 2), none, (.v (.mv (.c .cap0)))⟩]) (.seq (.ops [⟨(some 6), none, (.v (.fld 4 (.t 1)))⟩, ⟨(some 7), none, (.v (.load 1 false (.t 6)))⟩, ⟨(some 8), none, (.call (.c (.fn 152 [])) [(.t 7)])⟩, ⟨(some 3), none, (.v (.mv (.t 8)))⟩]) (.seq (.seq (.ops [⟨(some 9), none, (.v (.fld 2 (.t 1)))⟩, ⟨(some 10), none, (.v (.load 1 false (.t 9)))⟩, ⟨(some 11), none, (.v (.len (.t 10)))⟩, ⟨(some 12), none, (.v (.mv (.c (.int .i64 0))))⟩]) (.block 0 (.loop a140_0))) (.seq (.ops [⟨(some 22), none, (.v (.mv (.t 3)))⟩, ⟨(some 2), none, (.v (.mv (.t 22)))⟩]) .ret))))
def r140 : List AI := [(.mv (.t 2))]
theorem f140 : Fn PP 140 1 a140 r140 := Fn.of (fn := Go.Proofs.Try.f140) (by kernel_rfl) (by kernel_rfl) (by kernel_rfl)
theorem p152 (n : Nat) (f : Nat → AV) (hf : ∀ i, i < n → (f i).cells.length = 1 ∧ (f i).cells.all AV.isCell = true) (hn : n ≤ 1048576) : CallW PP 152 [.fs n f] mem0 fun r m => (r = .cap0 ∧ n = 0) ∨ ∃ id ver e sz n' g, r = .sl id ver n' ∧ m id = .row ver e sz n' g ∧ (n' = n ∧ e = 108 ∧ sz = 1 ∧ ∀ i, i < n → g i = f i) := by
  refine Fn.call fmix f152 ?_
  unfold a152 r152
  simp -implicitDefEqProofs only [vqa, Nat.reduceEqDiff, Nat.reduceAdd, reduceIte, Nat.reduceLeDiff, Nat.reduceBEq, Nat.reduceLT, Nat.reduceSub, Int.reduceLT, Int.reduceLE, Int.reduceEq, Int.reduceToNat, Nat.reduceMul, eq_self, implies_true, forall_const]
  refine ⟨?_, fun h => .inl h⟩
  exact ⟨⟨hf, by omega, by omega⟩, .inr ⟨_, _, _, _, _, _, rfl, if_pos rfl, rfl, rfl, rfl, fun i hi => rfl⟩⟩
theorem p140 {G : Gra} {cs : List AV} (hG : GraC cs G) (ok : G.Ok) : Pure PP 140 [.agg cs] fun r => Fro (G.nk + G.nr) (fun k a => a = .int .i64 (rootAt G k)) r := by
  obtain ⟨f0, f1, f2, f3, f4, rfl, g0, g1, g2, g3, g4⟩ := hG
  have hnk := ok.nk; have hnr := ok.nr
  have hnm0 : ∀ j, j < G.nk → rootAt G j = G.outs j := fun j hj => by unfold rootAt; rw [if_pos hj]
  refine Fn.pure fmix f140 ?_
  unfold a140 r140
  simp -implicitDefEqProofs only [vqa, Nat.reduceEqDiff, Nat.reduceAdd, reduceIte, Nat.reduceLeDiff, Nat.reduceBEq, Nat.reduceLT, Nat.reduceSub, Int.reduceLT, Int.reduceLE, Int.reduceEq, Int.reduceToNat, Nat.reduceMul, eq_self, implies_true, forall_const]
  refine (CallW.own0 (K := fun v m => Acc2 8 20 108 1 G.nk (fun k a => a = .int .i64 (rootAt G k)) v m ∧ m 1 = .var ((mem0 1).ver + 1) [.fs G.ni f0, .fs G.no f1, .fs G.nr f2, .fs G.na f3, .fs G.nk f4]) 8 (p152 G.nk f4 (fun i hi => by rw [g4 i hi]; exact ⟨rfl, rfl⟩) hnk) rfl rfl (fun h => ⟨.inl ⟨h, rfl⟩, rfl⟩) (fun e sz n g ⟨h1, h2, h3, h4⟩ => ?_)).mono fun v m hGm => ?_
  · subst h1; subst h2; subst h3
    refine And.intro (Or.inr ⟨8, _, g, .inl rfl, rfl, set_same _ _ _, fun j hj => ?_⟩) rfl
    show g j = .int .i64 (rootAt G j)
    rw [h4 j hj, g4 j hj, hnm0 j hj]
  obtain ⟨hA, hm1⟩ := hGm
  simp -implicitDefEqProofs only [vqa, Nat.reduceEqDiff, Nat.reduceAdd, reduceIte, Nat.reduceLeDiff, Nat.reduceBEq, Nat.reduceLT, Nat.reduceSub, Int.reduceLT, Int.reduceLE, Int.reduceEq, Int.reduceToNat, Nat.reduceMul, eq_self, implies_true, forall_const, hm1]
  refine vFor G.nr (fun i e m => e 10 = .fs G.nr f2 ∧ e 11 = .int .i64 G.nr ∧ e 12 = .int .i64 i ∧ Acc2 8 20 108 1 (G.nk + i) (fun k a => a = .int .i64 (rootAt G k)) (e 3) m) ?_ ?_ ?_
  · simp -implicitDefEqProofs only [vqa, Nat.reduceEqDiff, Nat.reduceAdd, reduceIte, Nat.reduceLeDiff, Nat.reduceBEq, Nat.reduceLT, Nat.reduceSub, Int.reduceLT, Int.reduceLE, Int.reduceEq, Int.reduceToNat, Nat.reduceMul, eq_self, implies_true, forall_const, hm1]
    exact hA
  · rintro i e m hi hi' ⟨h11, h12, h13, hA⟩
    have hnm : rootAt G (G.nk + i) = (G.reg i).next := by unfold rootAt; rw [if_neg (by omega)]; congr 2; omega
    unfold a140_0
    rcases hA with ⟨hz, h3⟩ | ⟨s, ver, g, rfl | rfl, h3, hm3, hg⟩
    · simp -implicitDefEqProofs only [vqa, Nat.reduceEqDiff, Nat.reduceAdd, reduceIte, Nat.reduceLeDiff, Nat.reduceBEq, Nat.reduceLT, Nat.reduceSub, Int.reduceLT, Int.reduceLE, Int.reduceEq, Int.reduceToNat, Nat.reduceMul, eq_self, implies_true, forall_const, h11, h12, h13, h3, hi', g2 i hi, RegV.av]
      have e0 : G.nk = 0 := by omega
      have e1 : i = 0 := by omega
      subst e1
      rw [e0] at hnm
      exact ⟨by omega, hi, wI (by omega) (by omega), Acc2.keep (by rw [e0]; exact (Acc.first (p := fun k a => a = .int .i64 (rootAt G k)) (congrArg _ hnm.symm)).two') rfl rfl⟩
    · simp -implicitDefEqProofs only [vqa, Nat.reduceEqDiff, Nat.reduceAdd, reduceIte, Nat.reduceLeDiff, Nat.reduceBEq, Nat.reduceLT, Nat.reduceSub, Int.reduceLT, Int.reduceLE, Int.reduceEq, Int.reduceToNat, Nat.reduceMul, eq_self, implies_true, forall_const, h11, h12, h13, h3, hm3, hi', g2 i hi, RegV.av]
      exact ⟨by omega, ⟨by omega, by omega⟩, hi, wI (by omega) (by omega), (Acc.push (p := fun k a => a = .int .i64 (rootAt G k)) hg (congrArg _ hnm.symm)).two⟩
    · simp -implicitDefEqProofs only [vqa, Nat.reduceEqDiff, Nat.reduceAdd, reduceIte, Nat.reduceLeDiff, Nat.reduceBEq, Nat.reduceLT, Nat.reduceSub, Int.reduceLT, Int.reduceLE, Int.reduceEq, Int.reduceToNat, Nat.reduceMul, eq_self, implies_true, forall_const, h11, h12, h13, h3, hm3, hi', g2 i hi, RegV.av]
      exact ⟨by omega, ⟨by omega, by omega⟩, hi, wI (by omega) (by omega), (Acc.push (p := fun k a => a = .int .i64 (rootAt G k)) hg (congrArg _ hnm.symm)).two'⟩
  · rintro e m ⟨h11, h12, h13, hA⟩
    unfold a140_0
    rcases hA with ⟨hz, h3⟩ | ⟨s, ver, g, rfl | rfl, h3, hm3, hg⟩
    · simp -implicitDefEqProofs only [vqa, Nat.reduceEqDiff, Nat.reduceAdd, reduceIte, Nat.reduceLeDiff, Nat.reduceBEq, Nat.reduceLT, Nat.reduceSub, Int.reduceLT, Int.reduceLE, Int.reduceEq, Int.reduceToNat, Nat.reduceMul, eq_self, implies_true, forall_const, h11, h12, h13, h3]
      exact ⟨_, by rw [hz], fun j hj => absurd hj (by omega)⟩
    · simp -implicitDefEqProofs only [vqa, Nat.reduceEqDiff, Nat.reduceAdd, reduceIte, Nat.reduceLeDiff, Nat.reduceBEq, Nat.reduceLT, Nat.reduceSub, Int.reduceLT, Int.reduceLE, Int.reduceEq, Int.reduceToNat, Nat.reduceMul, eq_self, implies_true, forall_const, h11, h12, h13, h3, hm3]
      exact ⟨g, rfl, hg⟩
    · simp -implicitDefEqProofs only [vqa, Nat.reduceEqDiff, Nat.reduceAdd, reduceIte, Nat.reduceLeDiff, Nat.reduceBEq, Nat.reduceLT, Nat.reduceSub, Int.reduceLT, Int.reduceLE, Int.reduceEq, Int.reduceToNat, Nat.reduceMul, eq_self, implies_true, forall_const, h11, h12, h13, h3, hm3]
      exact ⟨g, rfl, hg⟩
end Go.Ab
