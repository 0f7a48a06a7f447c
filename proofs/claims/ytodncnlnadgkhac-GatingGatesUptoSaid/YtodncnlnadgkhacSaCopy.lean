/- Walks: Copy, with what it makes still the caller's to change. -/
import Derived.Test.YtodncnlnadgkhacSaEnds
import Derived.Test.YtodncnlnadgkhacSaOr
import Derived.Test.YtodncnlnadgkhacSaSame
import Derived.Test.YtodncnlnadgkhacFwW
set_option linter.unusedSimpArgs false
set_option linter.unusedVariables false
namespace Go.Ab
open Go
def a105 : AC := (.seq (.ops [⟨(some 2), none, (.v (.mv (.c .cap0)))⟩]) (.seq (.seq (.ops [⟨(some 3), none, (.v (.mv (.t 0)))⟩, ⟨(some 4), none, (.isnil false (.t 3))⟩]) (.cond (.t 4) (.seq (.ops [⟨(some 2), none, (.v (.mv (.c .cap0)))⟩]) .ret) .skip)) (.seq (.ops [⟨(some 5), none, (.e (.lit 5 129 5 0 [(.str ⟨#[]⟩), (.int .i64 0), (.int .i64 0), (.int .i64 0), (.bool false)] []))⟩, ⟨(some 6), none, (.v (.mv (.t 0)))⟩, ⟨(some 7), none, (.e (.app 7 129 5 48 (.t 5) (.t 6)))⟩, ⟨(some 2), none, (.v (.mv (.t 7)))⟩]) .ret)))
def r105 : List AI := [(.mv (.t 2))]
theorem f105 : Fn PP 105 1 a105 r105 := Fn.of (fn := Go.Proofs.Try.f105) (by kernel_rfl) (by kernel_rfl) (by kernel_rfl)
def a106 : AC := (.seq (.ops [⟨(some 2), none, (.v (.mv (.c .cap0)))⟩]) (.seq (.seq (.ops [⟨(some 3), none, (.v (.mv (.t 0)))⟩, ⟨(some 4), none, (.isnil false (.t 3))⟩]) (.cond (.t 4) (.seq (.ops [⟨(some 2), none, (.v (.mv (.c .cap0)))⟩]) .ret) .skip)) (.seq (.ops [⟨(some 5), none, (.e (.lit 5 127 3 0 [(.int .i64 0), (.int .u64 0), .cap0] []))⟩, ⟨(some 6), none, (.v (.mv (.t 0)))⟩, ⟨(some 7), none, (.e (.app 7 127 3 40 (.t 5) (.t 6)))⟩, ⟨(some 2), none, (.v (.mv (.t 7)))⟩]) .ret)))
def r106 : List AI := [(.mv (.t 2))]
theorem f106 : Fn PP 106 1 a106 r106 := Fn.of (fn := Go.Proofs.Try.f106) (by kernel_rfl) (by kernel_rfl) (by kernel_rfl)
def a95_0 : AC := (.seq (.ops [⟨(some 25), none, (.v (.bin .lss (.t 24) (.t 23)))⟩]) (.seq (.cond (.t 25) .skip (.exit 0)) (.seq (.block 1 (.seq (.ops [⟨(some 26), none, (.v (.mv (.t 24)))⟩, ⟨(some 4), none, (.v (.mv (.t 26)))⟩]) (.any [⟨(some 27), none, (.v (.fld 3 (.t 3)))⟩, ⟨(some 28), none, (.v (.load 1 false (.t 27)))⟩, ⟨(some 29), none, (.v (.mv (.t 4)))⟩, ⟨(some 30), none, (.v (.fld 3 (.t 3)))⟩, ⟨(some 31), none, (.v (.load 1 false (.t 30)))⟩, ⟨(some 32), none, (.v (.mv (.t 4)))⟩, ⟨(some 33), none, (.v (.idx 3 (.t 31) (.t 32)))⟩, ⟨(some 34), none, (.v (.fld 2 (.t 33)))⟩, ⟨(some 35), none, (.v (.load 1 false (.t 34)))⟩, ⟨(some 36), none, (.call (.c (.fn 104 [])) [(.t 35)])⟩, ⟨(some 37), none, (.v (.idx 3 (.t 28) (.t 29)))⟩, ⟨(some 38), none, (.v (.fld 2 (.t 37)))⟩, ⟨none, none, (.e (.store 1 (.t 38) (.t 36)))⟩] [[], [0], [], [], [3], [], [4, 5], [6], [7], [8], [1, 2, 0, 1, 2, 3, 4, 5, 6, 7, 8, 9], [10, 0, 1, 2, 3, 4, 5, 6, 7, 8, 9], [11, 9, 9, 0, 1, 2, 3, 4, 5, 6, 7, 8, 9]]))) (.ops [⟨(some 39), none, (.v (.bin .add (.t 24) (.c (.int .i64 1))))⟩, ⟨(some 24), none, (.v (.mv (.t 39)))⟩]))))
def a95 : AC := (.seq (.ops [⟨(some 1), none, (.e (.box 1 0 (.t 0)))⟩, ⟨(some 2), none, (.e (.alloc 2 [.cap0, .cap0, .cap0, .cap0, .cap0]))⟩]) (.seq (.any [⟨(some 5), none, (.v (.fld 0 (.t 1)))⟩, ⟨(some 6), none, (.v (.load 1 false (.t 5)))⟩, ⟨(some 7), none, (.call (.c (.fn 40 [])) [(.t 6)])⟩, ⟨(some 8), none, (.v (.fld 1 (.t 1)))⟩, ⟨(some 9), none, (.v (.load 1 false (.t 8)))⟩, ⟨(some 10), none, (.call (.c (.fn 40 [])) [(.t 9)])⟩, ⟨(some 11), none, (.v (.fld 2 (.t 1)))⟩, ⟨(some 12), none, (.v (.load 1 false (.t 11)))⟩, ⟨(some 13), none, (.call (.c (.fn 105 [])) [(.t 12)])⟩, ⟨(some 14), none, (.v (.fld 3 (.t 1)))⟩, ⟨(some 15), none, (.v (.load 1 false (.t 14)))⟩, ⟨(some 16), none, (.call (.c (.fn 106 [])) [(.t 15)])⟩, ⟨(some 17), none, (.v (.fld 4 (.t 1)))⟩, ⟨(some 18), none, (.v (.load 1 false (.t 17)))⟩, ⟨(some 19), none, (.call (.c (.fn 104 [])) [(.t 18)])⟩, ⟨(some 20), none, (.v (.build [.cap0, .cap0, .cap0, .cap0, .cap0] [(0, (1, (.t 7))), (1, (1, (.t 10))), (2, (1, (.t 13))), (3, (1, (.t 16))), (4, (1, (.t 19)))]))⟩, ⟨(some 3), none, (.e (.alloc 3 [.cap0, .cap0, .cap0, .cap0, .cap0]))⟩, ⟨none, none, (.e (.store 5 (.t 3) (.t 20)))⟩] [[], [0], [1], [], [3], [4, 2], [], [6], [7, 5], [], [9], [10, 8], [], [12], [13, 11], [2, 5, 8, 11, 14], [], [16, 15, 14, 0, 1, 2, 3, 4, 5, 6, 7, 8, 9, 10, 11, 12, 13, 14, 15, 16]]) (.seq (.seq (.ops [⟨(some 21), none, (.v (.fld 3 (.t 3)))⟩, ⟨(some 22), none, (.v (.load 1 false (.t 21)))⟩, ⟨(some 23), none, (.v (.len (.t 22)))⟩, ⟨(some 24), none, (.v (.mv (.c (.int .i64 0))))⟩]) (.block 0 (.loop a95_0))) (.seq (.ops [⟨(some 40), none, (.v (.load 5 true (.t 3)))⟩, ⟨none, none, (.e (.store 5 (.t 2) (.t 40)))⟩]) .ret))))
def r95 : List AI := [(.load 5 true (.t 2))]
theorem f95 : Fn PP 95 1 a95 r95 := Fn.of (fn := Go.Proofs.Try.f95) (by kernel_rfl) (by kernel_rfl) (by kernel_rfl)

theorem p104z (n : Nat) (f : Nat → AV) (hf : ∀ i, i < n → (f i).cells.length = 1 ∧ (f i).cells.all AV.isCell = true) (hn : n ≤ 1048576) : Pure PP 104 [.fs n f] fun r => ∃ g, r = .fs n g ∧ ∀ i, i < n → g i = f i := by
  refine Fn.pure fmix f104 ?_
  unfold a104 r104
  simp -implicitDefEqProofs only [vqa, Nat.reduceEqDiff, Nat.reduceAdd, reduceIte, Nat.reduceLeDiff, Nat.reduceBEq, Nat.reduceLT, Nat.reduceSub, Int.reduceLT, Int.reduceLE, Int.reduceEq, Int.reduceToNat, Nat.reduceMul, eq_self, implies_true, forall_const]
  refine ⟨?_, fun h => ⟨_, by rw [h], fun i hi => absurd hi (by omega)⟩⟩
  cases n with
  | zero => simp -implicitDefEqProofs only [vqa, Nat.reduceEqDiff, Nat.reduceAdd, reduceIte, Nat.reduceLeDiff, Nat.reduceBEq, Nat.reduceLT, Nat.reduceSub, Int.reduceLT, Int.reduceLE, Int.reduceEq, Int.reduceToNat, Nat.reduceMul, eq_self, implies_true, forall_const]; exact ⟨_, rfl⟩
  | succ n =>
    simp -implicitDefEqProofs only [vqa, Nat.reduceEqDiff, Nat.reduceAdd, reduceIte, Nat.reduceLeDiff, Nat.reduceBEq, Nat.reduceLT, Nat.reduceSub, Int.reduceLT, Int.reduceLE, Int.reduceEq, Int.reduceToNat, Nat.reduceMul, eq_self, implies_true, forall_const]
    exact ⟨⟨hf, by omega, by omega⟩, _, rfl, fun i hi => rfl⟩
theorem p105z (n : Nat) (f : Nat → AV) (hf : ∀ i, i < n → (f i).cells.length = 5 ∧ (f i).cells.all AV.isCell = true) (hn : n ≤ 1048576) : Pure PP 105 [.fs n f] fun r => ∃ g, r = .fs n g ∧ ∀ i, i < n → g i = f i := by
  refine Fn.pure fmix f105 ?_
  unfold a105 r105
  simp -implicitDefEqProofs only [vqa, Nat.reduceEqDiff, Nat.reduceAdd, reduceIte, Nat.reduceLeDiff, Nat.reduceBEq, Nat.reduceLT, Nat.reduceSub, Int.reduceLT, Int.reduceLE, Int.reduceEq, Int.reduceToNat, Nat.reduceMul, eq_self, implies_true, forall_const]
  refine ⟨?_, fun h => ⟨_, by rw [h], fun i hi => absurd hi (by omega)⟩⟩
  cases n with
  | zero => simp -implicitDefEqProofs only [vqa, Nat.reduceEqDiff, Nat.reduceAdd, reduceIte, Nat.reduceLeDiff, Nat.reduceBEq, Nat.reduceLT, Nat.reduceSub, Int.reduceLT, Int.reduceLE, Int.reduceEq, Int.reduceToNat, Nat.reduceMul, eq_self, implies_true, forall_const]; exact ⟨_, rfl⟩
  | succ n =>
    simp -implicitDefEqProofs only [vqa, Nat.reduceEqDiff, Nat.reduceAdd, reduceIte, Nat.reduceLeDiff, Nat.reduceBEq, Nat.reduceLT, Nat.reduceSub, Int.reduceLT, Int.reduceLE, Int.reduceEq, Int.reduceToNat, Nat.reduceMul, eq_self, implies_true, forall_const]
    exact ⟨⟨hf, by omega, by omega⟩, _, rfl, fun i hi => rfl⟩
theorem p106 (n : Nat) (f : Nat → AV) (hf : ∀ i, i < n → (f i).cells.length = 3 ∧ (f i).cells.all AV.isCell = true) (hn : n ≤ 1048576) : CallW PP 106 [.fs n f] mem0 fun r m => (r = .cap0 ∧ n = 0) ∨ ∃ id ver e sz n' g, r = .sl id ver n' ∧ m id = .row ver e sz n' g ∧ (n' = n ∧ e = 127 ∧ sz = 3 ∧ ∀ i, i < n → g i = f i) := by
  refine Fn.call fmix f106 ?_
  unfold a106 r106
  simp -implicitDefEqProofs only [vqa, Nat.reduceEqDiff, Nat.reduceAdd, reduceIte, Nat.reduceLeDiff, Nat.reduceBEq, Nat.reduceLT, Nat.reduceSub, Int.reduceLT, Int.reduceLE, Int.reduceEq, Int.reduceToNat, Nat.reduceMul, eq_self, implies_true, forall_const]
  refine ⟨?_, fun h => .inl h⟩
  exact ⟨⟨hf, by omega, by omega⟩, .inr ⟨_, _, _, _, _, _, rfl, if_pos rfl, rfl, rfl, rfl, fun i hi => rfl⟩⟩

theorem p95 {N : Net} {cs : List AV} (hN : NetC cs N) (ok : N.Ok) : Pure PP 95 [.agg cs] fun r => ∃ ds, r = .agg ds ∧ NetC ds N := by
  obtain ⟨f0, f1, f2, f3, f4, rfl, g0, g1, g2, g3, g4⟩ := hN
  have hni := ok.ni; have hnf := ok.nf; have hno := ok.no; have hng := ok.ng; have hnk := ok.nk
  have c0 : ∀ i, i < N.ni → (f0 i).cells.length = 1 ∧ (f0 i).cells.all AV.isCell = true := fun i hi => by rw [g0 i hi]; exact ⟨rfl, rfl⟩
  have c1 : ∀ i, i < N.no → (f1 i).cells.length = 1 ∧ (f1 i).cells.all AV.isCell = true := fun i hi => by rw [g1 i hi]; exact ⟨rfl, rfl⟩
  have c2 : ∀ i, i < N.nf → (f2 i).cells.length = 5 ∧ (f2 i).cells.all AV.isCell = true := fun i hi => by rw [g2 i hi]; exact ⟨rfl, rfl⟩
  have c3 : ∀ i, i < N.ng → (f3 i).cells.length = 3 ∧ (f3 i).cells.all AV.isCell = true := fun i hi => by obtain ⟨q, hq, _⟩ := g3 i hi; rw [hq]; exact ⟨rfl, rfl⟩
  have c4 : ∀ i, i < N.nk → (f4 i).cells.length = 1 ∧ (f4 i).cells.all AV.isCell = true := fun i hi => by rw [g4 i hi]; exact ⟨rfl, rfl⟩
  refine Fn.pure fmix f95 ?_
  unfold a95 r95
  simp -implicitDefEqProofs only [vqa, Nat.reduceEqDiff, Nat.reduceAdd, reduceIte, Nat.reduceLeDiff, Nat.reduceBEq, Nat.reduceLT, Nat.reduceSub, Int.reduceLT, Int.reduceLE, Int.reduceEq, Int.reduceToNat, Nat.reduceMul, eq_self, implies_true, forall_const]
  refine vAnyF [0, 1, 3, 4, 6, 7, 9, 10, 12, 13, 2, 5, 8, 11, 14, 15] 16 17 3 3 [.cap0, .cap0, .cap0, .cap0, .cap0] (oneL 1) rfl rfl rfl rfl ?_
  simp -implicitDefEqProofs only [vqa, Nat.reduceEqDiff, Nat.reduceAdd, reduceIte, Nat.reduceLeDiff, Nat.reduceBEq, Nat.reduceLT, Nat.reduceSub, Int.reduceLT, Int.reduceLE, Int.reduceEq, Int.reduceToNat, Nat.reduceMul, eq_self, implies_true, forall_const]
  refine CallX.fz (p40z N.ni f0 c0 hni) rfl rfl fun r ⟨a0, hr, h0⟩ => ⟨by subst hr; rfl, ?_⟩
  subst hr
  simp -implicitDefEqProofs only [vqa, Nat.reduceEqDiff, Nat.reduceAdd, reduceIte, Nat.reduceLeDiff, Nat.reduceBEq, Nat.reduceLT, Nat.reduceSub, Int.reduceLT, Int.reduceLE, Int.reduceEq, Int.reduceToNat, Nat.reduceMul, eq_self, implies_true, forall_const]
  refine CallX.fz (p40z N.no f1 c1 hno) rfl rfl fun r ⟨a1, hr, h1⟩ => ⟨by subst hr; rfl, ?_⟩
  subst hr
  simp -implicitDefEqProofs only [vqa, Nat.reduceEqDiff, Nat.reduceAdd, reduceIte, Nat.reduceLeDiff, Nat.reduceBEq, Nat.reduceLT, Nat.reduceSub, Int.reduceLT, Int.reduceLE, Int.reduceEq, Int.reduceToNat, Nat.reduceMul, eq_self, implies_true, forall_const]
  refine CallX.fz (p105z N.nf f2 c2 hnf) rfl rfl fun r ⟨a2, hr, h2⟩ => ⟨by subst hr; rfl, ?_⟩
  subst hr
  simp -implicitDefEqProofs only [vqa, Nat.reduceEqDiff, Nat.reduceAdd, reduceIte, Nat.reduceLeDiff, Nat.reduceBEq, Nat.reduceLT, Nat.reduceSub, Int.reduceLT, Int.reduceLE, Int.reduceEq, Int.reduceToNat, Nat.reduceMul, eq_self, implies_true, forall_const]
  have net : ∀ (a3 a4 : Nat → AV), (∀ i, i < N.ng → GateA (a3 i) (N.gate i)) → (∀ i, i < N.nk → a4 i = f4 i) → NetC [.fs N.ni a0, .fs N.no a1, .fs N.nf a2, .fs N.ng a3, .fs N.nk a4] N := fun a3 a4 k3 k4 =>
    ⟨a0, a1, a2, a3, a4, rfl, fun i hi => by rw [h0 i hi, g0 i hi], fun i hi => by rw [h1 i hi, g1 i hi], fun i hi => by rw [h2 i hi, g2 i hi], k3, fun i hi => by rw [k4 i hi, g4 i hi]⟩
  refine CallX.own0 16 (by decide) (p106 N.ng f3 c3 hng) rfl rfl (fun hz => ?_) (fun e sz n g ⟨e1, e2, e3, hg⟩ => ?_)
  · simp -implicitDefEqProofs only [vqa, Nat.reduceEqDiff, Nat.reduceAdd, reduceIte, Nat.reduceLeDiff, Nat.reduceBEq, Nat.reduceLT, Nat.reduceSub, Int.reduceLT, Int.reduceLE, Int.reduceEq, Int.reduceToNat, Nat.reduceMul, eq_self, implies_true, forall_const]
    refine CallX.fz (p104z N.nk f4 c4 hnk) rfl rfl fun r ⟨a4, hr, h4⟩ => ⟨by subst hr; rfl, ?_⟩
    subst hr
    simp -implicitDefEqProofs only [vqa, Nat.reduceEqDiff, Nat.reduceAdd, reduceIte, Nat.reduceLeDiff, Nat.reduceBEq, Nat.reduceLT, Nat.reduceSub, Int.reduceLT, Int.reduceLE, Int.reduceEq, Int.reduceToNat, Nat.reduceMul, eq_self, implies_true, forall_const]
    refine vFor 0 (fun i e m => e 2 = .ptr 2 ((mem0 2).ver + 1) 0 ∧ e 3 = .ptr 3 ((mem0 3).ver + 1) 0 ∧ (m 3 = .var ((mem0 3).ver + 1) [.fs N.ni a0, .fs N.no a1, .fs N.nf a2, .cap0, .fs N.nk a4] ∧ m 2 = .var ((mem0 2).ver + 1) [.cap0, .cap0, .cap0, .cap0, .cap0]) ∧ e 23 = .int .i64 0 ∧ e 24 = .int .i64 0) ?_ ?_ ?_
    · simp -implicitDefEqProofs only [vqa, Nat.reduceEqDiff, Nat.reduceAdd, reduceIte, Nat.reduceLeDiff, Nat.reduceBEq, Nat.reduceLT, Nat.reduceSub, Int.reduceLT, Int.reduceLE, Int.reduceEq, Int.reduceToNat, Nat.reduceMul, eq_self, implies_true, forall_const]
    · exact fun i e m hi => absurd hi (Nat.not_lt_zero _)
    · rintro e m ⟨h2', h3', ⟨hm3, hm2⟩, h23, h24⟩
      unfold a95_0
      simp -implicitDefEqProofs only [vqa, Nat.reduceEqDiff, Nat.reduceAdd, reduceIte, Nat.reduceLeDiff, Nat.reduceBEq, Nat.reduceLT, Nat.reduceSub, Int.reduceLT, Int.reduceLE, Int.reduceEq, Int.reduceToNat, Nat.reduceMul, eq_self, implies_true, forall_const, h2', h3', hm3, hm2, h23, h24]
      exact ⟨_, rfl, hz ▸ net (fun _ => .undef) a4 (fun i hi => by omega) h4⟩
  · subst e1; subst e2; subst e3
    simp -implicitDefEqProofs only [vqa, Nat.reduceEqDiff, Nat.reduceAdd, reduceIte, Nat.reduceLeDiff, Nat.reduceBEq, Nat.reduceLT, Nat.reduceSub, Int.reduceLT, Int.reduceLE, Int.reduceEq, Int.reduceToNat, Nat.reduceMul, eq_self, implies_true, forall_const]
    refine CallX.fz (p104z N.nk f4 c4 hnk) rfl rfl fun r ⟨a4, hr, h4⟩ => ⟨by subst hr; rfl, ?_⟩
    subst hr
    simp -implicitDefEqProofs only [vqa, Nat.reduceEqDiff, Nat.reduceAdd, reduceIte, Nat.reduceLeDiff, Nat.reduceBEq, Nat.reduceLT, Nat.reduceSub, Int.reduceLT, Int.reduceLE, Int.reduceEq, Int.reduceToNat, Nat.reduceMul, eq_self, implies_true, forall_const]
    refine vFor N.ng (fun i e m => e 2 = .ptr 2 ((mem0 2).ver + 1) 0 ∧ e 3 = .ptr 3 ((mem0 3).ver + 1) 0 ∧ (m 3 = .var ((mem0 3).ver + 1) [.fs N.ni a0, .fs N.no a1, .fs N.nf a2, .sl 16 ((mem0 16).ver + 1) N.ng, .fs N.nk a4] ∧ m 2 = .var ((mem0 2).ver + 1) [.cap0, .cap0, .cap0, .cap0, .cap0]) ∧ e 23 = .int .i64 N.ng ∧ e 24 = .int .i64 i ∧ ∃ g, m 16 = .row ((mem0 16).ver + 1) 127 3 N.ng g ∧ ∀ j, j < N.ng → GateA (g j) (N.gate j)) ?_ ?_ ?_
    · simp -implicitDefEqProofs only [vqa, Nat.reduceEqDiff, Nat.reduceAdd, reduceIte, Nat.reduceLeDiff, Nat.reduceBEq, Nat.reduceLT, Nat.reduceSub, Int.reduceLT, Int.reduceLE, Int.reduceEq, Int.reduceToNat, Nat.reduceMul, eq_self, implies_true, forall_const]
      exact ⟨_, rfl, fun j hj => by rw [hg j hj]; exact g3 j hj⟩
    · rintro i e m hi hi' ⟨h2', h3', ⟨hm3, hm2⟩, h23, h24, gg, hm16, hgg⟩
      obtain ⟨q, hq, hqi⟩ := hgg i hi
      have hin := (ok.gate i hi).1
      unfold a95_0
      simp -implicitDefEqProofs only [vqa, Nat.reduceEqDiff, Nat.reduceAdd, reduceIte, Nat.reduceLeDiff, Nat.reduceBEq, Nat.reduceLT, Nat.reduceSub, Int.reduceLT, Int.reduceLE, Int.reduceEq, Int.reduceToNat, Nat.reduceMul, eq_self, implies_true, forall_const, h2', h3', hm3, hm2, h23, h24, hm16, hi']
      refine vAny [0, 1, 2, 3, 4, 5, 6, 7, 8, 9, 10, 11, 12] 12 allL rfl rfl ?_
      simp -implicitDefEqProofs only [vqa, Nat.reduceEqDiff, Nat.reduceAdd, reduceIte, Nat.reduceLeDiff, Nat.reduceBEq, Nat.reduceLT, Nat.reduceSub, Int.reduceLT, Int.reduceLE, Int.reduceEq, Int.reduceToNat, Nat.reduceMul, eq_self, implies_true, forall_const, h2', h3', hm3, hm2, h23, h24, hm16, hq]
      refine ⟨by omega, hi, ?_⟩
      refine CallW.fz (p104z (N.gate i).n q (fun k hk => by rw [hqi k hk]; exact ⟨rfl, rfl⟩) hin) rfl rfl fun r ⟨q', hr, hq'⟩ => ⟨by subst hr; rfl, ?_⟩
      subst hr
      simp -implicitDefEqProofs only [vqa, Nat.reduceEqDiff, Nat.reduceAdd, reduceIte, Nat.reduceLeDiff, Nat.reduceBEq, Nat.reduceLT, Nat.reduceSub, Int.reduceLT, Int.reduceLE, Int.reduceEq, Int.reduceToNat, Nat.reduceMul, eq_self, implies_true, forall_const, h2', h3', hm3, hm2, h23, h24, hm16, hq]
      refine ⟨by omega, hi, hi, wI (by omega) (by omega), _, rfl, fun j hj => ?_⟩
      by_cases e : j = i
      · subst e
        simp only [decide_true, cond_true]
        exact ⟨q', rfl, fun k hk => by rw [hq' k hk, hqi k hk]⟩
      · simp only [e, decide_false, cond_false]
        exact hgg j hj
    · rintro e m ⟨h2', h3', ⟨hm3, hm2⟩, h23, h24, gg, hm16, hgg⟩
      unfold a95_0
      simp -implicitDefEqProofs only [vqa, Nat.reduceEqDiff, Nat.reduceAdd, reduceIte, Nat.reduceLeDiff, Nat.reduceBEq, Nat.reduceLT, Nat.reduceSub, Int.reduceLT, Int.reduceLE, Int.reduceEq, Int.reduceToNat, Nat.reduceMul, eq_self, implies_true, forall_const, h2', h3', hm3, hm2, h23, h24, hm16]
      exact ⟨_, rfl, net gg a4 hgg h4⟩
def b95_0 (b : Nat) : AC := (.seq (.ops [⟨(some 25), none, (.v (.bin .lss (.t 24) (.t 23)))⟩]) (.seq (.cond (.t 25) .skip (.exit 0)) (.seq (.block 1 (.seq (.ops [⟨(some 26), none, (.v (.mv (.t 24)))⟩, ⟨(some 4), none, (.v (.mv (.t 26)))⟩]) (.any [⟨(some 27), none, (.v (.fld 3 (.t 3)))⟩, ⟨(some 28), none, (.v (.load 1 false (.t 27)))⟩, ⟨(some 29), none, (.v (.mv (.t 4)))⟩, ⟨(some 30), none, (.v (.fld 3 (.t 3)))⟩, ⟨(some 31), none, (.v (.load 1 false (.t 30)))⟩, ⟨(some 32), none, (.v (.mv (.t 4)))⟩, ⟨(some 33), none, (.v (.idx 3 (.t 31) (.t 32)))⟩, ⟨(some 34), none, (.v (.fld 2 (.t 33)))⟩, ⟨(some 35), none, (.v (.load 1 false (.t 34)))⟩, ⟨(some 36), none, (.call (.c (.fn 104 [])) [(.t 35)])⟩, ⟨(some 37), none, (.v (.idx 3 (.t 28) (.t 29)))⟩, ⟨(some 38), none, (.v (.fld 2 (.t 37)))⟩, ⟨none, none, (.e (.store 1 (.t 38) (.t 36)))⟩] [[], [0], [], [], [3], [], [4, 5], [6], [7], [8], [1, 2, 0, 1, 2, 3, 4, 5, 6, 7, 8, 9], [10, 0, 1, 2, 3, 4, 5, 6, 7, 8, 9], [11, 9, 9, 0, 1, 2, 3, 4, 5, 6, 7, 8, 9]]))) (.ops [⟨(some 39), none, (.v (.bin .add (.t 24) (.c (.int .i64 1))))⟩, ⟨(some 24), none, (.v (.mv (.t 39)))⟩]))))
def b95 (b : Nat) : AC := (.seq (.ops [⟨(some 1), none, (.e (.box (b + 1) 0 (.t 0)))⟩, ⟨(some 2), none, (.e (.alloc (b + 2) [.cap0, .cap0, .cap0, .cap0, .cap0]))⟩]) (.seq (.any [⟨(some 5), none, (.v (.fld 0 (.t 1)))⟩, ⟨(some 6), none, (.v (.load 1 false (.t 5)))⟩, ⟨(some 7), none, (.call (.c (.fn 40 [])) [(.t 6)])⟩, ⟨(some 8), none, (.v (.fld 1 (.t 1)))⟩, ⟨(some 9), none, (.v (.load 1 false (.t 8)))⟩, ⟨(some 10), none, (.call (.c (.fn 40 [])) [(.t 9)])⟩, ⟨(some 11), none, (.v (.fld 2 (.t 1)))⟩, ⟨(some 12), none, (.v (.load 1 false (.t 11)))⟩, ⟨(some 13), none, (.call (.c (.fn 105 [])) [(.t 12)])⟩, ⟨(some 14), none, (.v (.fld 3 (.t 1)))⟩, ⟨(some 15), none, (.v (.load 1 false (.t 14)))⟩, ⟨(some 16), none, (.call (.c (.fn 106 [])) [(.t 15)])⟩, ⟨(some 17), none, (.v (.fld 4 (.t 1)))⟩, ⟨(some 18), none, (.v (.load 1 false (.t 17)))⟩, ⟨(some 19), none, (.call (.c (.fn 104 [])) [(.t 18)])⟩, ⟨(some 20), none, (.v (.build [.cap0, .cap0, .cap0, .cap0, .cap0] [(0, (1, (.t 7))), (1, (1, (.t 10))), (2, (1, (.t 13))), (3, (1, (.t 16))), (4, (1, (.t 19)))]))⟩, ⟨(some 3), none, (.e (.alloc (b + 3) [.cap0, .cap0, .cap0, .cap0, .cap0]))⟩, ⟨none, none, (.e (.store 5 (.t 3) (.t 20)))⟩] [[], [0], [1], [], [3], [4, 2], [], [6], [7, 5], [], [9], [10, 8], [], [12], [13, 11], [2, 5, 8, 11, 14], [], [16, 15, 14, 0, 1, 2, 3, 4, 5, 6, 7, 8, 9, 10, 11, 12, 13, 14, 15, 16]]) (.seq (.seq (.ops [⟨(some 21), none, (.v (.fld 3 (.t 3)))⟩, ⟨(some 22), none, (.v (.load 1 false (.t 21)))⟩, ⟨(some 23), none, (.v (.len (.t 22)))⟩, ⟨(some 24), none, (.v (.mv (.c (.int .i64 0))))⟩]) (.block 0 (.loop (b95_0 b)))) (.seq (.ops [⟨(some 40), none, (.v (.load 5 true (.t 3)))⟩, ⟨none, none, (.e (.store 5 (.t 2) (.t 40)))⟩]) .ret))))
def q95 : List AI := [(.load 5 true (.t 2))]
theorem g95 (b : Nat) : Fn PP 95 1 (b95 b) q95 := Fn.ofB b (fn := Go.Proofs.Try.f95) (by kernel_rfl) (by kernel_rfl) (by kernel_rfl)
theorem p105 (n : Nat) (f : Nat → AV) (hf : ∀ i, i < n → (f i).cells.length = 5 ∧ (f i).cells.all AV.isCell = true) (hn : n ≤ 1048576) : CallW PP 105 [.fs n f] mem0 fun r m => (r = .cap0 ∧ n = 0) ∨ ∃ id ver e sz n' g, r = .sl id ver n' ∧ m id = .row ver e sz n' g ∧ (n' = n ∧ e = 129 ∧ sz = 5 ∧ ∀ i, i < n → g i = f i) := by
  refine Fn.call fmix f105 ?_
  unfold a105 r105
  simp -implicitDefEqProofs only [vqa, Nat.reduceEqDiff, Nat.reduceAdd, reduceIte, Nat.reduceLeDiff, Nat.reduceBEq, Nat.reduceLT, Nat.reduceSub, Int.reduceLT, Int.reduceLE, Int.reduceEq, Int.reduceToNat, Nat.reduceMul, eq_self, implies_true, forall_const]
  refine ⟨?_, fun h => .inl h⟩
  exact ⟨⟨hf, by omega, by omega⟩, .inr ⟨_, _, _, _, _, _, rfl, if_pos rfl, rfl, rfl, rfl, fun i hi => rfl⟩⟩
theorem p104r (n : Nat) (f : Nat → AV) (hf : ∀ i, i < n → (f i).cells.length = 1 ∧ (f i).cells.all AV.isCell = true) (hn : n ≤ 1048576) : CallW PP 104 [.fs n f] mem0 fun r m => (r = .cap0 ∧ n = 0) ∨ ∃ id ver e sz n' g, r = .sl id ver n' ∧ m id = .row ver e sz n' g ∧ (n' = n ∧ e = 3 ∧ sz = 1 ∧ ∀ i, i < n → g i = f i) := by
  refine Fn.call fmix f104 ?_
  unfold a104 r104
  simp -implicitDefEqProofs only [vqa, Nat.reduceEqDiff, Nat.reduceAdd, reduceIte, Nat.reduceLeDiff, Nat.reduceBEq, Nat.reduceLT, Nat.reduceSub, Int.reduceLT, Int.reduceLE, Int.reduceEq, Int.reduceToNat, Nat.reduceMul, eq_self, implies_true, forall_const]
  refine ⟨?_, fun h => .inl h⟩
  exact ⟨⟨hf, by omega, by omega⟩, .inr ⟨_, _, _, _, _, _, rfl, if_pos rfl, rfl, rfl, rfl, fun i hi => rfl⟩⟩
/-- The pins of gate i, a row of the call's own. -/
def InsO (N : Net) (i : Nat) (y : AV) (m : Mem) : Prop := (y = .cap0 ∧ (N.gate i).n = 0) ∨ ∃ v f, y = .sl (10000000 + i) v (N.gate i).n ∧ m (10000000 + i) = .row v 3 1 (N.gate i).n f ∧ ∀ k, k < (N.gate i).n → f k = .int .i64 ((N.gate i).ins k)
theorem InsO.frame {N : Net} {i : Nat} {y : AV} {m m' : Mem} (h : InsO N i y m) (hm : m' (10000000 + i) = m (10000000 + i)) : InsO N i y m' := by
  rcases h with h | ⟨v, f, h1, h2, h3⟩
  · exact .inl h
  · exact .inr ⟨v, f, h1, hm.trans h2, h3⟩
def GateO (N : Net) (i : Nat) (a : AV) (m : Mem) : Prop := ∃ y, a = .agg [.int .i64 (N.gate i).cell, .int .u64 (N.gate i).table, y] ∧ InsO N i y m
def CopyR (b : Nat) (N : Net) (r : AV) (m : Mem) : Prop := ∃ a0 a1 xf xg xo, r = .agg [.fs N.ni a0, .fs N.no a1, xf, xg, xo] ∧ (∀ i, i < N.ni → a0 i = .str (N.inn i)) ∧ (∀ i, i < N.no → a1 i = .str (N.out i)) ∧ Acc (b + 13) 129 5 N.nf (fun i a => a = (N.flop i).av) xf m ∧ ((N.ng = 0 ∧ xg = .cap0) ∨ ∃ v g, xg = .vs (b + 16) v N.ng ∧ m (b + 16) = .vrow v 127 3 N.ng g ∧ ∀ i, i < N.ng → GateO N i (g i) m) ∧ Acc (b + 19) 3 1 N.nk (fun i a => a = .int .i64 (N.outs i)) xo m
theorem Acc.frame {s e sz n : Nat} {p : Nat → AV → Prop} {v : AV} {m m' : Mem} (h : Acc s e sz n p v m) (hm : m' s = m s) : Acc s e sz n p v m' := by
  rcases h with h | ⟨ver, g, h1, h2, h3⟩
  · exact .inl h
  · exact .inr ⟨ver, g, h1, hm.trans h2, h3⟩
theorem Acc.cell {s e sz n : Nat} {p : Nat → AV → Prop} {v : AV} {m : Mem} (h : Acc s e sz n p v m) : v.okv = true ∧ v.cells = [v] ∧ v.isCell = true := by
  rcases h with ⟨_, rfl⟩ | ⟨_, _, rfl, _, _⟩ <;> exact ⟨rfl, rfl, rfl⟩
theorem p95r {N : Net} {cs : List AV} (hN : NetC cs N) (ok : N.Ok) (b : Nat) (hb : b ≤ 1000000) (mem : Mem) (hd : ∀ i, i < N.ng → ∃ v, mem (10000000 + i) = .dead v) : CallW PP 95 [.agg cs] mem fun r m => CopyR b N r m ∧ ∀ i, i < b → m i = mem i := by
  obtain ⟨f0, f1, f2, f3, f4, rfl, g0, g1, g2, g3, g4⟩ := hN
  have hni := ok.ni; have hnf := ok.nf; have hno := ok.no; have hng := ok.ng; have hnk := ok.nk
  have c0 : ∀ i, i < N.ni → (f0 i).cells.length = 1 ∧ (f0 i).cells.all AV.isCell = true := fun i hi => by rw [g0 i hi]; exact ⟨rfl, rfl⟩
  have c1 : ∀ i, i < N.no → (f1 i).cells.length = 1 ∧ (f1 i).cells.all AV.isCell = true := fun i hi => by rw [g1 i hi]; exact ⟨rfl, rfl⟩
  have c2 : ∀ i, i < N.nf → (f2 i).cells.length = 5 ∧ (f2 i).cells.all AV.isCell = true := fun i hi => by rw [g2 i hi]; exact ⟨rfl, rfl⟩
  have c3 : ∀ i, i < N.ng → (f3 i).cells.length = 3 ∧ (f3 i).cells.all AV.isCell = true := fun i hi => by obtain ⟨q, hq, _⟩ := g3 i hi; rw [hq]; exact ⟨rfl, rfl⟩
  have c4 : ∀ i, i < N.nk → (f4 i).cells.length = 1 ∧ (f4 i).cells.all AV.isCell = true := fun i hi => by rw [g4 i hi]; exact ⟨rfl, rfl⟩
  refine Fn.call fmix (g95 b) ?_
  unfold b95 q95
  simp -implicitDefEqProofs only [vqa, Nat.reduceEqDiff, Nat.reduceAdd, reduceIte, Nat.reduceLeDiff, Nat.reduceBEq, Nat.reduceLT, Nat.reduceSub, Int.reduceLT, Int.reduceLE, Int.reduceEq, Int.reduceToNat, Nat.reduceMul, eq_self, implies_true, forall_const]
  generalize (mem (b + 1)).ver + 1 = V1
  generalize (mem (b + 2)).ver + 1 = V2
  refine seq_join (fun e m => ∃ a0 a1 xf xg xo V3, e 2 = .ptr (b + 2) V2 0 ∧ e 3 = .ptr (b + 3) V3 0 ∧ m (b + 2) = .var V2 [.cap0, .cap0, .cap0, .cap0, .cap0] ∧ m (b + 3) = .var V3 [.fs N.ni a0, .fs N.no a1, xf, xg, xo] ∧ (∀ j, j < b → m j = mem j) ∧ (∀ j, j < N.ng → ∃ v, m (10000000 + j) = .dead v) ∧ (∀ i, i < N.ni → a0 i = .str (N.inn i)) ∧ (∀ i, i < N.no → a1 i = .str (N.out i)) ∧ Acc (b + 13) 129 5 N.nf (fun i a => a = (N.flop i).av) xf m ∧ Acc (b + 16) 127 3 N.ng (fun i a => GateA a (N.gate i)) xg m ∧ Acc (b + 19) 3 1 N.nk (fun i a => a = .int .i64 (N.outs i)) xo m) ?_ ?_
  · refine vAnyF [0, 1, 3, 4, 6, 7, 9, 10, 12, 13, 2, 5, 8, 11, 14, 15] 16 17 3 (b + 3) [.cap0, .cap0, .cap0, .cap0, .cap0] (oneL (b + 1)) (by kernel_rfl) (by unfold oneL; simp) (by kernel_rfl) (by kernel_rfl) ?_
    simp -implicitDefEqProofs only [vqa, Nat.reduceEqDiff, Nat.reduceAdd, reduceIte, Nat.reduceLeDiff, Nat.reduceBEq, Nat.reduceLT, Nat.reduceSub, Int.reduceLT, Int.reduceLE, Int.reduceEq, Int.reduceToNat, Nat.reduceMul, eq_self, implies_true, forall_const]
    refine CallX.fz (p40z N.ni f0 c0 hni) rfl rfl fun r ⟨a0, hr, h0⟩ => ⟨by subst hr; rfl, ?_⟩
    subst hr
    simp -implicitDefEqProofs only [vqa, Nat.reduceEqDiff, Nat.reduceAdd, reduceIte, Nat.reduceLeDiff, Nat.reduceBEq, Nat.reduceLT, Nat.reduceSub, Int.reduceLT, Int.reduceLE, Int.reduceEq, Int.reduceToNat, Nat.reduceMul, eq_self, implies_true, forall_const]
    refine CallX.fz (p40z N.no f1 c1 hno) rfl rfl fun r ⟨a1, hr, h1⟩ => ⟨by subst hr; rfl, ?_⟩
    subst hr
    simp -implicitDefEqProofs only [vqa, Nat.reduceEqDiff, Nat.reduceAdd, reduceIte, Nat.reduceLeDiff, Nat.reduceBEq, Nat.reduceLT, Nat.reduceSub, Int.reduceLT, Int.reduceLE, Int.reduceEq, Int.reduceToNat, Nat.reduceMul, eq_self, implies_true, forall_const]
    generalize hM0 : Mem.set (b + 2) (.var V2 [.cap0, .cap0, .cap0, .cap0, .cap0]) (Mem.set (b + 1) (.var V1 [.fs N.ni f0, .fs N.no f1, .fs N.nf f2, .fs N.ng f3, .fs N.nk f4]) mem) = M0
    refine CallX.mono (CallX.own0 (K := fun v m => Acc (b + 13) 129 5 N.nf (fun i a => a = (N.flop i).av) v m ∧ ∀ i, i ≠ b + 13 → m i = M0 i) (b + 13) (by omega) (p105 N.nf f2 c2 hnf) rfl rfl (fun hz => ⟨.inl ⟨hz, rfl⟩, fun _ _ => rfl⟩) (fun e sz n g ⟨e1, e2, e3, hg⟩ => by subst e1; subst e2; subst e3; exact ⟨.inr ⟨_, _, rfl, set_same _ _ _, fun i hi => by rw [hg i hi, g2 i hi]⟩, fun i hi => set_ne hi _ _⟩)) fun xf m1 ⟨hf1, hr1⟩ => ?_
    have ag1 : Agree (oneL (b + 1)) M0 m1 := fun i hi => by
      have : i = b + 1 := by simpa [oneL] using hi
      subst this; exact hr1 _ (by omega)
    simp -implicitDefEqProofs only [vqa, Nat.reduceEqDiff, Nat.reduceAdd, reduceIte, Nat.reduceLeDiff, Nat.reduceBEq, Nat.reduceLT, Nat.reduceSub, Int.reduceLT, Int.reduceLE, Int.reduceEq, Int.reduceToNat, Nat.reduceMul, eq_self, implies_true, forall_const, ag1]
    refine CallX.mono (CallX.own0 (K := fun v m => Acc (b + 16) 127 3 N.ng (fun i a => GateA a (N.gate i)) v m ∧ ∀ i, i ≠ b + 16 → m i = m1 i) (b + 16) (by omega) (p106 N.ng f3 c3 hng) rfl rfl (fun hz => ⟨.inl ⟨hz, rfl⟩, fun _ _ => rfl⟩) (fun e sz n g ⟨e1, e2, e3, hg⟩ => by subst e1; subst e2; subst e3; exact ⟨.inr ⟨_, _, rfl, set_same _ _ _, fun i hi => by rw [hg i hi]; exact g3 i hi⟩, fun i hi => set_ne hi _ _⟩)) fun xg m2 ⟨hf2, hr2⟩ => ?_
    have ag2 : Agree (oneL (b + 1)) M0 m2 := fun i hi => by
      have : i = b + 1 := by simpa [oneL] using hi
      subst this; rw [hr2 _ (by omega)]; exact hr1 _ (by omega)
    simp -implicitDefEqProofs only [vqa, Nat.reduceEqDiff, Nat.reduceAdd, reduceIte, Nat.reduceLeDiff, Nat.reduceBEq, Nat.reduceLT, Nat.reduceSub, Int.reduceLT, Int.reduceLE, Int.reduceEq, Int.reduceToNat, Nat.reduceMul, eq_self, implies_true, forall_const, ag2]
    refine CallX.mono (CallX.own0 (K := fun v m => Acc (b + 19) 3 1 N.nk (fun i a => a = .int .i64 (N.outs i)) v m ∧ ∀ i, i ≠ b + 19 → m i = m2 i) (b + 19) (by omega) (p104r N.nk f4 c4 hnk) rfl rfl (fun hz => ⟨.inl ⟨hz, rfl⟩, fun _ _ => rfl⟩) (fun e sz n g ⟨e1, e2, e3, hg⟩ => by subst e1; subst e2; subst e3; exact ⟨.inr ⟨_, _, rfl, set_same _ _ _, fun i hi => by rw [hg i hi]; exact g4 i hi⟩, fun i hi => set_ne hi _ _⟩)) fun xo m3 ⟨hf3, hr3⟩ => ?_
    have ag3 : Agree (oneL (b + 1)) M0 m3 := fun i hi => by
      have : i = b + 1 := by simpa [oneL] using hi
      subst this; rw [hr3 _ (by omega), hr2 _ (by omega)]; exact hr1 _ (by omega)
    obtain ⟨kf1, kf2, kf3⟩ := hf1.cell
    obtain ⟨kg1, kg2, kg3⟩ := hf2.cell
    obtain ⟨ko1, ko2, ko3⟩ := hf3.cell
    simp -implicitDefEqProofs only [vqa, Nat.reduceEqDiff, Nat.reduceAdd, reduceIte, Nat.reduceLeDiff, Nat.reduceBEq, Nat.reduceLT, Nat.reduceSub, Int.reduceLT, Int.reduceLE, Int.reduceEq, Int.reduceToNat, Nat.reduceMul, eq_self, implies_true, forall_const, ag3, kf1, kf2, kf3, kg1, kg2, kg3, ko1, ko2, ko3]
    have hr : ∀ i, i ≠ b + 13 → i ≠ b + 16 → i ≠ b + 19 → m3 i = M0 i := fun i k1 k2 k3 => by rw [hr3 _ k3, hr2 _ k2, hr1 _ k1]
    have hMb : ∀ i, i ≠ b + 1 → i ≠ b + 2 → M0 i = mem i := fun i k1 k2 => by rw [← hM0, set_ne k2, set_ne k1]
    refine ⟨a0, a1, xf, xg, xo, _, rfl, ?_, rfl, fun j hj => ?_, fun j hj => ?_, fun i hi => by rw [h0 i hi, g0 i hi], fun i hi => by rw [h1 i hi, g1 i hi], ?_, ?_, ?_⟩
    · rw [hr _ (by omega) (by omega) (by omega), ← hM0, set_same]
    · rw [if_neg (by omega), if_neg (by omega), hr _ (by omega) (by omega) (by omega), hMb _ (by omega) (by omega)]
    · obtain ⟨v, hv⟩ := hd j hj
      exact ⟨v, by rw [if_neg (by omega), if_neg (by omega), hr _ (by omega) (by omega) (by omega), hMb _ (by omega) (by omega)]; exact hv⟩
    · refine hf1.frame ?_
      rw [set_ne (by omega), set_ne (by omega), hr3 _ (by omega), hr2 _ (by omega)]
    · refine hf2.frame ?_
      rw [set_ne (by omega), set_ne (by omega), hr3 _ (by omega)]
    · refine hf3.frame ?_
      rw [set_ne (by omega), set_ne (by omega)]
  · rintro e m ⟨a0, a1, xf, xg, xo, V3, h2, h3, m2, m3, hk, hdd, ha0, ha1, hF, hG, hO⟩
    rcases hG with ⟨hz, rfl⟩ | ⟨vG, gG, rfl, mG, hgG⟩
    · simp -implicitDefEqProofs only [vqa, Nat.reduceEqDiff, Nat.reduceAdd, reduceIte, Nat.reduceLeDiff, Nat.reduceBEq, Nat.reduceLT, Nat.reduceSub, Int.reduceLT, Int.reduceLE, Int.reduceEq, Int.reduceToNat, Nat.reduceMul, eq_self, implies_true, forall_const, h2, h3, m2, m3]
      refine vFor 0 (fun i e m => e 2 = .ptr (b + 2) V2 0 ∧ e 3 = .ptr (b + 3) V3 0 ∧ m (b + 2) = .var V2 [.cap0, .cap0, .cap0, .cap0, .cap0] ∧ m (b + 3) = .var V3 [.fs N.ni a0, .fs N.no a1, xf, .cap0, xo] ∧ e 23 = .int .i64 0 ∧ e 24 = .int .i64 0 ∧ (∀ j, j < b → m j = mem j) ∧ Acc (b + 13) 129 5 N.nf (fun i a => a = (N.flop i).av) xf m ∧ Acc (b + 19) 3 1 N.nk (fun i a => a = .int .i64 (N.outs i)) xo m) ?_ ?_ ?_
      · simp -implicitDefEqProofs only [vqa, Nat.reduceEqDiff, Nat.reduceAdd, reduceIte, Nat.reduceLeDiff, Nat.reduceBEq, Nat.reduceLT, Nat.reduceSub, Int.reduceLT, Int.reduceLE, Int.reduceEq, Int.reduceToNat, Nat.reduceMul, eq_self, implies_true, forall_const, h2, h3, m2, m3]
        exact ⟨hk, hF, hO⟩
      · exact fun i e m hi => absurd hi (Nat.not_lt_zero _)
      · rintro e m ⟨h2, h3, m2, m3, h23, h24, hk, hF, hO⟩
        unfold b95_0
        obtain ⟨kf1, kf2, kf3⟩ := hF.cell
        obtain ⟨ko1, ko2, ko3⟩ := hO.cell
        simp -implicitDefEqProofs only [vqa, Nat.reduceEqDiff, Nat.reduceAdd, reduceIte, Nat.reduceLeDiff, Nat.reduceBEq, Nat.reduceLT, Nat.reduceSub, Int.reduceLT, Int.reduceLE, Int.reduceEq, Int.reduceToNat, Nat.reduceMul, eq_self, implies_true, forall_const, h2, h3, m2, m3, h23, h24, kf1, kf2, kf3, ko1, ko2, ko3]
        refine ⟨⟨a0, a1, _, _, _, rfl, ha0, ha1, hF.frame ?_, .inl ⟨hz, rfl⟩, hO.frame ?_⟩, fun i hi => ?_⟩
        · rw [set_ne (by omega)]
        · rw [set_ne (by omega)]
        · rw [if_neg (by omega)]; exact hk i hi
    · simp -implicitDefEqProofs only [vqa, Nat.reduceEqDiff, Nat.reduceAdd, reduceIte, Nat.reduceLeDiff, Nat.reduceBEq, Nat.reduceLT, Nat.reduceSub, Int.reduceLT, Int.reduceLE, Int.reduceEq, Int.reduceToNat, Nat.reduceMul, eq_self, implies_true, forall_const, h2, h3, m2, m3, mG]
      have z7 : ∀ i : Nat, (b + 2 = 10000000 + i) = False := fun i => by simp; omega
      refine vForS N.ng (fun i e m => e 2 = .ptr (b + 2) V2 0 ∧ e 3 = .ptr (b + 3) V3 0 ∧ m (b + 2) = .var V2 [.cap0, .cap0, .cap0, .cap0, .cap0] ∧ m (b + 3) = .var V3 [.fs N.ni a0, .fs N.no a1, xf, .vs (b + 16) (vG + 1) N.ng, xo] ∧ e 23 = .int .i64 N.ng ∧ e 24 = .int .i64 i ∧ (∀ j, j < b → m j = mem j) ∧ Acc (b + 13) 129 5 N.nf (fun i a => a = (N.flop i).av) xf m ∧ Acc (b + 19) 3 1 N.nk (fun i a => a = .int .i64 (N.outs i)) xo m ∧ (∀ j, i ≤ j → j < N.ng → ∃ v, m (10000000 + j) = .dead v) ∧ ∃ g, m (b + 16) = .vrow (vG + 1) 127 3 N.ng g ∧ (∀ j, j < i → GateO N j (g j) m) ∧ ∀ j, i ≤ j → j < N.ng → GateA (g j) (N.gate j)) ?_ ?_ ?_
      · refine ⟨_, _, Shift.vrowD (c := 3) (o := b + 3) (vo := V3) (id := b + 16) (v := vG) (es := 127) (sz := 3) (n := N.ng) (k := N.ng) (f := gG) (cs := [.fs N.ni a0, .fs N.no a1, xf, .sl (b + 16) vG N.ng, xo]) ?_ ?_ (by simp) rfl, ?_⟩
        · simp -implicitDefEqProofs only [vqa, Nat.reduceEqDiff, Nat.reduceAdd, reduceIte, Nat.reduceLeDiff, Nat.reduceBEq, Nat.reduceLT, Nat.reduceSub, Int.reduceLT, Int.reduceLE, Int.reduceEq, Int.reduceToNat, Nat.reduceMul, eq_self, implies_true, forall_const, mG]
        · simp -implicitDefEqProofs only [vqa, Nat.reduceEqDiff, Nat.reduceAdd, reduceIte, Nat.reduceLeDiff, Nat.reduceBEq, Nat.reduceLT, Nat.reduceSub, Int.reduceLT, Int.reduceLE, Int.reduceEq, Int.reduceToNat, Nat.reduceMul, eq_self, implies_true, forall_const, m3]
        · simp -implicitDefEqProofs only [vqa, Nat.reduceEqDiff, Nat.reduceAdd, reduceIte, Nat.reduceLeDiff, Nat.reduceBEq, Nat.reduceLT, Nat.reduceSub, Int.reduceLT, Int.reduceLE, Int.reduceEq, Int.reduceToNat, Nat.reduceMul, eq_self, implies_true, forall_const, h2, h3, m2, m3, List.set]
          refine ⟨fun j hj => ?_, hF.frame ?_, hO.frame ?_, fun j _ hj => ?_, _, rfl, fun j _ hj => hgG j hj⟩
          · rw [if_neg (by omega), if_neg (by omega)]; exact hk j hj
          · rw [set_ne (by omega), set_ne (by omega)]
          · rw [set_ne (by omega), set_ne (by omega)]
          · rw [if_neg (by omega), if_neg (by omega)]; exact hdd j hj
      · rintro i e m hi hi' ⟨h2, h3, m2, m3, h23, h24, hk, hF, hO, hdd, g, mr, hgd, hgn⟩
        obtain ⟨q, hq, hqi⟩ := hgn i (Nat.le_refl _) hi
        have hin := (ok.gate i hi).1
        have q3 : ∀ m, restr (twoL (b + 3) (b + 16)) m (b + 3) = m (b + 3) := fun _ => restr_two1
        have q16 : ∀ m, restr (twoL (b + 3) (b + 16)) m (b + 16) = m (b + 16) := fun _ => restr_two2
        unfold b95_0
        simp -implicitDefEqProofs only [vqa, Nat.reduceEqDiff, Nat.reduceAdd, reduceIte, Nat.reduceLeDiff, Nat.reduceBEq, Nat.reduceLT, Nat.reduceSub, Int.reduceLT, Int.reduceLE, Int.reduceEq, Int.reduceToNat, Nat.reduceMul, eq_self, implies_true, forall_const, h2, h3, m2, m3, h23, h24, hi', lenV, idxV, loadV, storeV, mr]
        refine vAny [0, 1, 2, 3, 4, 5, 6, 7, 8, 9, 10, 11, 12] 12 (twoL (b + 3) (b + 16)) (by kernel_rfl) (by kernel_rfl) ?_
        simp -implicitDefEqProofs only [vqa, Nat.reduceEqDiff, Nat.reduceAdd, reduceIte, Nat.reduceLeDiff, Nat.reduceBEq, Nat.reduceLT, Nat.reduceSub, Int.reduceLT, Int.reduceLE, Int.reduceEq, Int.reduceToNat, Nat.reduceMul, eq_self, implies_true, forall_const, q3, q16, agree_two, h2, h3, m2, m3, h23, h24, hi', lenV, idxV, fldV, loadV, storeV, mr, hq]
        refine ⟨by omega, hi, ?_⟩
        refine CallW.own0 (b + 36) (p104r (N.gate i).n q (fun k hk => by rw [hqi k hk]; exact ⟨rfl, rfl⟩) hin) rfl rfl (fun hz => ?_) (fun e sz n g' ⟨e1, e2, e3, hg⟩ => ?_)
        · simp -implicitDefEqProofs only [vqa, Nat.reduceEqDiff, Nat.reduceAdd, reduceIte, Nat.reduceLeDiff, Nat.reduceBEq, Nat.reduceLT, Nat.reduceSub, Int.reduceLT, Int.reduceLE, Int.reduceEq, Int.reduceToNat, Nat.reduceMul, eq_self, implies_true, forall_const, q3, q16, agree_two, forSN, forSR, forSE, h2, h3, m2, m3, h23, h24, hi', lenV, idxV, fldV, loadV, storeV, mr, hq]
          refine ⟨by omega, hi, hi, _, _, Shift.refl _ _, ?_⟩
          simp -implicitDefEqProofs only [vqa, Nat.reduceEqDiff, Nat.reduceAdd, reduceIte, Nat.reduceLeDiff, Nat.reduceBEq, Nat.reduceLT, Nat.reduceSub, Int.reduceLT, Int.reduceLE, Int.reduceEq, Int.reduceToNat, Nat.reduceMul, eq_self, implies_true, forall_const, h2, h3, m2, m3, h23, h24]
          refine ⟨wI (by omega) (by omega), fun j hj => ?_, hF.frame ?_, hO.frame ?_, fun j hij hj => ?_, _, rfl, fun j hj => ?_, fun j hij hj => ?_⟩
          · rw [if_neg (by omega)]; exact hk j hj
          · rw [set_ne (by omega)]
          · rw [set_ne (by omega)]
          · rw [if_neg (by omega)]; exact hdd j (by omega) hj
          · by_cases e : j = i
            · subst e
              simp only [decide_true, cond_true]
              exact ⟨_, rfl, .inl ⟨rfl, hz⟩⟩
            · simp only [e, decide_false, cond_false]
              obtain ⟨y, hy, hY⟩ := hgd j (by omega)
              exact ⟨y, hy, hY.frame (by rw [set_ne (by omega)])⟩
          · have e : j ≠ i := by omega
            simp only [e, decide_false, cond_false]
            exact hgn j (by omega) hj
        · subst e1; subst e2; subst e3
          obtain ⟨dv, hdv⟩ := hdd i (Nat.le_refl _) hi
          simp -implicitDefEqProofs only [vqa, Nat.reduceEqDiff, Nat.reduceAdd, reduceIte, Nat.reduceLeDiff, Nat.reduceBEq, Nat.reduceLT, Nat.reduceSub, Int.reduceLT, Int.reduceLE, Int.reduceEq, Int.reduceToNat, Nat.reduceMul, eq_self, implies_true, forall_const, q3, q16, agree_two, forSN, forSR, forSE, h2, h3, m2, m3, h23, h24, hi', lenV, idxV, fldV, loadV, storeV, mr, hq]
          refine ⟨by omega, hi, hi, _, _, Shift.nameC (c := 2) (s := b + 36) (t := 10000000 + i) (r := b + 16) (i := i) (wv := dv) (v := (m (b + 36)).ver + 1) (es := 3) (sz := 1) (n := (N.gate i).n) (k := (N.gate i).n) (f := g') (nr := N.ng) (sr := 3) (er := 127) (vr := vG + 1) (g := fun j => bif decide (j = i) then .agg [.int .i64 (N.gate i).cell, .int .u64 (N.gate i).table, .sl (b + 36) ((m (b + 36)).ver + 1) (N.gate i).n] else g j) ?_ ?_ ?_ hi (by decide) ?_ (.agg [.int .i64 (N.gate i).cell, .int .u64 (N.gate i).table, .sl (10000000 + i) (dv + 1) (N.gate i).n]) ?_, ?_⟩
          · rw [set_ne (by omega), set_same]
          · rw [set_ne (by omega), set_ne (by omega)]; exact hdv
          · rw [set_same]
          · simp only [decide_true, cond_true]; rfl
          · simp only [decide_true, cond_true]; rfl
          · have z1 : ∀ o : Nat, o < b + 16 → o ≠ 10000000 + i := fun o ho => by omega
            simp -implicitDefEqProofs only [vqa, Nat.reduceEqDiff, Nat.reduceAdd, reduceIte, Nat.reduceLeDiff, Nat.reduceBEq, Nat.reduceLT, Nat.reduceSub, Int.reduceLT, Int.reduceLE, Int.reduceEq, Int.reduceToNat, Nat.reduceMul, eq_self, implies_true, forall_const, h2, h3, m2, m3, h23, h24]
            refine ⟨?_, ?_, wI (by omega) (by omega), fun j hj => ?_, hF.frame ?_, hO.frame ?_, fun j hij hj => ?_, _, rfl, fun j hj => ?_, fun j hij hj => ?_⟩
            · rw [if_neg (by omega)]
            · rw [if_neg (by omega)]
            · rw [if_neg (by omega), if_neg (by omega), if_neg (by omega), if_neg (by omega), if_neg (by omega)]; exact hk j hj
            · rw [set_ne (by omega), set_ne (by omega), set_ne (by omega), set_ne (by omega), set_ne (by omega)]
            · rw [set_ne (by omega), set_ne (by omega), set_ne (by omega), set_ne (by omega), set_ne (by omega)]
            · rw [if_neg (by omega), if_neg (by omega), if_neg (by omega), if_neg (by omega), if_neg (by omega)]; exact hdd j (by omega) hj
            · by_cases e : j = i
              · subst e
                simp only [Nat.beq_refl, cond_true]
                refine ⟨_, rfl, .inr ⟨_, g', rfl, ?_, fun k hk => by rw [hg k hk, hqi k hk]⟩⟩
                rw [set_ne (by omega), set_same]
              · simp only [e, decide_false, cond_false, beq_false_of_ne e]
                obtain ⟨y, hy, hY⟩ := hgd j (by omega)
                exact ⟨y, hy, hY.frame (by rw [set_ne (by omega), set_ne (by omega), set_ne (by omega), set_ne (by omega), set_ne (by omega)])⟩
            · have e : j ≠ i := by omega
              simp only [e, decide_false, cond_false, beq_false_of_ne e]
              exact hgn j (by omega) hj
      · rintro e m ⟨h2, h3, m2, m3, h23, h24, hk, hF, hO, hdd, g, mr, hgd, hgn⟩
        obtain ⟨kf1, kf2, kf3⟩ := hF.cell
        obtain ⟨ko1, ko2, ko3⟩ := hO.cell
        have kv : (AV.vs (b + 16) (vG + 1) N.ng).isCell = true := rfl
        unfold b95_0
        simp -implicitDefEqProofs only [vqa, Nat.reduceEqDiff, Nat.reduceAdd, reduceIte, Nat.reduceLeDiff, Nat.reduceBEq, Nat.reduceLT, Nat.reduceSub, Int.reduceLT, Int.reduceLE, Int.reduceEq, Int.reduceToNat, Nat.reduceMul, eq_self, implies_true, forall_const, h2, h3, m2, m3, h23, h24, kf1, kf2, kf3, ko1, ko2, ko3, kv]
        refine ⟨⟨a0, a1, _, _, _, rfl, ha0, ha1, hF.frame ?_, .inr ⟨_, g, rfl, ?_, fun i hi => ?_⟩, hO.frame ?_⟩, fun i hi => ?_⟩
        · rw [set_ne (by omega)]
        · rw [set_ne (by omega)]; exact mr
        · obtain ⟨y, hy, hY⟩ := hgd i hi
          exact ⟨y, hy, hY.frame (by rw [set_ne (by omega)])⟩
        · rw [set_ne (by omega)]
        · rw [if_neg (by omega)]; exact hk i hi
end Go.Ab
