/- Walks: netlist.Loads (rows of own rows). -/
import Derived.Test.YtodncnlnadgkhaaSaForm
import Derived.Test.YtodncnlnadgkhaaFwV
set_option linter.unusedSimpArgs false
set_option linter.unusedVariables false
namespace Go.Ab
open Go
def b69 (b : Nat) : AC := (.seq (.ops [⟨(some 4), none, (.e (.box (b + 4) 0 (.t 1)))⟩]) (.any [⟨(some 5), none, (.v (.load 1 false (.t 2)))⟩, ⟨(some 6), none, (.v (.mv (.t 0)))⟩, ⟨(some 7), none, (.v (.load 1 false (.t 2)))⟩, ⟨(some 8), none, (.v (.mv (.t 0)))⟩, ⟨(some 9), none, (.v (.idx 1 (.t 7) (.t 8)))⟩, ⟨(some 10), none, (.v (.load 1 false (.t 9)))⟩, ⟨(some 11), none, (.v (.load 3 true (.t 4)))⟩, ⟨(some 12), none, (.e (.lit (b + 12) 43 3 1 [(.int .i64 0), (.int .i64 0), (.int .i64 0)] [(0, (.t 11))]))⟩, ⟨(some 13), none, (.e (.app (b + 13) 43 3 24 (.t 10) (.t 12)))⟩, ⟨(some 14), none, (.v (.idx 1 (.t 5) (.t 6)))⟩, ⟨none, none, (.e (.store 1 (.t 14) (.t 13)))⟩] [[], [], [], [], [2, 3], [4], [], [6], [5, 7], [0, 1, 0, 1, 2, 3, 4, 5, 6, 7, 8], [9, 8, 8, 0, 1, 2, 3, 4, 5, 6, 7, 8]]))
def q69 : List AI := []
theorem g69 (b : Nat) : Fn PP 69 3 (b69 b) q69 := Fn.ofB b (fn := Go.Proofs.Try.f69) (by kernel_rfl) (by kernel_rfl) (by kernel_rfl)

theorem p69a (b : Nat) {mem : Mem} {o vo r vr nn : Nat} {g : Nat → AV} (ho : o < b) (hr : r < b) (hne : o ≠ r) (mo : mem o = .var vo [.vs r vr nn]) (mr : mem r = .vrow vr 40 1 nn g) (q : Nat) (hq : q < nn) (x y z : Int) (hg : g q = .cap0) :
    CallW PP 69 [.int .i64 (q : Nat), .agg [.int .i64 x, .int .i64 y, .int .i64 z], .ptr o vo 0] mem fun u m => (∃ V h, m r = .vrow vr 40 1 nn (fun j => bif Nat.beq j q then .sl (b + 13) V 1 else g j) ∧ m (b + 13) = .row V 43 3 1 h ∧ h 0 = .agg [.int .i64 x, .int .i64 y, .int .i64 z]) ∧ ∀ i, (i < b ∨ b + 100 ≤ i) → i ≠ r → m i = mem i := by
  have q1 : ∀ (m : Mem), restr (threeL o r (b + 4)) m o = m o := fun _ => restr_three1
  have q2 : ∀ (m : Mem), restr (threeL o r (b + 4)) m r = m r := fun _ => restr_three2
  have q3 : ∀ (m : Mem), restr (threeL o r (b + 4)) m (b + 4) = m (b + 4) := fun _ => restr_three3
  have hq' : (q : Int) < nn := by omega
  have e1 : (o = r) = False := by simp [hne]
  have e2 : (r = o) = False := by simp [Ne.symm hne]
  refine Fn.call fmix (g69 b) ?_
  unfold b69 q69
  simp -implicitDefEqProofs only [vq0, vq1, vq2, vq3, vq4, vq5, vq6, vq7, vq8, vq9, vqc, vqj, vqf, AI.val, EI.run, binI, kEq, env0, RetF, retL, retV, frzAL, part?, List.drop, List.take, List.all, List.length, List.map, List.append, List.nil_append, List.cons_append, List.append_nil, List.getD_cons_zero, List.getD_cons_succ, List.getD_nil, Option.map_some, Option.map_none, cond_true, cond_false, Nat.reduceEqDiff, Nat.reduceAdd, reduceIte, eq_self, IntKind.bits, litA, appSrc, frzV, frzL, mkElt, List.replicate, List.set, Nat.reduceLeDiff, Nat.reduceBEq, Nat.reduceLT, decide_true, decide_false, List.getElem?_cons_zero, List.getElem?_cons_succ, List.getElem?_nil, Nat.reduceSub, gt_iff_lt, ge_iff_le, Int.reduceLT, Int.reduceLE, Int.reduceEq, Int.cast_ofNat_Int, Int.reduceToNat, implies_true, forall_const, Nat.reduceMul, keyV, elN, eqCells, binS, Ret, newElt, fillA, bound, aidxV, bNe ho, bNe hr, bNe' ho, bNe' hr, mo, mr]
  refine vAny [0, 1, 2, 3, 4, 5, 6, 7, 8, 9, 10] 10 (threeL o r (b + 4)) (by kernel_rfl) (by kernel_rfl) ?_
  simp -implicitDefEqProofs only [vq0, vq1, vq2, vq3, vq4, vq5, vq6, vq7, vq8, vq9, vqc, vqj, vqf, AI.val, EI.run, binI, kEq, env0, RetF, retL, retV, frzAL, part?, List.drop, List.take, List.all, List.length, List.map, List.append, List.nil_append, List.cons_append, List.append_nil, List.getD_cons_zero, List.getD_cons_succ, List.getD_nil, Option.map_some, Option.map_none, cond_true, cond_false, Nat.reduceEqDiff, Nat.reduceAdd, reduceIte, eq_self, IntKind.bits, litA, appSrc, frzV, frzL, mkElt, List.replicate, List.set, Nat.reduceLeDiff, Nat.reduceBEq, Nat.reduceLT, decide_true, decide_false, List.getElem?_cons_zero, List.getElem?_cons_succ, List.getElem?_nil, Nat.reduceSub, gt_iff_lt, ge_iff_le, Int.reduceLT, Int.reduceLE, Int.reduceEq, Int.cast_ofNat_Int, Int.reduceToNat, implies_true, forall_const, Nat.reduceMul, keyV, elN, eqCells, binS, Ret, newElt, fillA, bound, aidxV, q1, q2, q3, agree_three, bEq, lenV, idxV, loadV, storeV, bNe ho, bNe hr, bNe' ho, bNe' hr, mo, mr, hq', hg, e1, e2]
  refine ⟨by omega, hq, by omega, hq, ⟨_, _, rfl, rfl, rfl⟩, fun i hi hn => ?_⟩
  rw [if_neg hn, if_neg (by omega), if_neg (by omega), if_neg (by omega)]

theorem p69b (b : Nat) {mem : Mem} {o vo r vr nn id v len : Nat} {g h : Nat → AV} (ho : o < b) (hr : r < b) (hne : o ≠ r) (mo : mem o = .var vo [.vs r vr nn]) (mr : mem r = .vrow vr 40 1 nn g) (q : Nat) (hq : q < nn) (x y z : Int) (hg : g q = .sl id v len) (mi : mem id = .row v 43 3 len h) (hid : id < b ∨ b + 100 ≤ id) (hir : id ≠ r) (hio : id ≠ o) (hl : len ≤ 16777216) :
    CallW PP 69 [.int .i64 (q : Nat), .agg [.int .i64 x, .int .i64 y, .int .i64 z], .ptr o vo 0] mem fun u m => (m r = .vrow vr 40 1 nn (fun j => bif Nat.beq j q then .sl id (v + 1) (len + 1) else g j) ∧ m id = .row (v + 1) 43 3 (len + 1) (fun k => bif decide (k < len) then h k else [AV.agg [.int .i64 x, .int .i64 y, .int .i64 z]].getD (k - len) .undef)) ∧ ∀ i, (i < b ∨ b + 100 ≤ i) → i ≠ r → i ≠ id → m i = mem i := by
  have q1 : ∀ (m : Mem), restr (threeL o r (b + 4)) m o = m o := fun _ => restr_three1
  have q2 : ∀ (m : Mem), restr (threeL o r (b + 4)) m r = m r := fun _ => restr_three2
  have q3 : ∀ (m : Mem), restr (threeL o r (b + 4)) m (b + 4) = m (b + 4) := fun _ => restr_three3
  have hq' : (q : Int) < nn := by omega
  have e1 : (o = r) = False := by simp [hne]
  have e2 : (r = o) = False := by simp [Ne.symm hne]
  have e3 : (id = r) = False := by simp [hir]
  have e4 : (r = id) = False := by simp [Ne.symm hir]
  have e5 : (id = o) = False := by simp [hio]
  have e6 : (o = id) = False := by simp [Ne.symm hio]
  have e7 : (id = b + 4) = False := by simp; omega
  have e8 : (id = b + 12) = False := by simp; omega
  have e9 : (b + 4 = id) = False := by simp; omega
  have e10 : (b + 12 = id) = False := by simp; omega
  refine Fn.call fmix (g69 b) ?_
  unfold b69 q69
  simp -implicitDefEqProofs only [vq0, vq1, vq2, vq3, vq4, vq5, vq6, vq7, vq8, vq9, vqc, vqj, vqf, AI.val, EI.run, binI, kEq, env0, RetF, retL, retV, frzAL, part?, List.drop, List.take, List.all, List.length, List.map, List.append, List.nil_append, List.cons_append, List.append_nil, List.getD_cons_zero, List.getD_cons_succ, List.getD_nil, Option.map_some, Option.map_none, cond_true, cond_false, Nat.reduceEqDiff, Nat.reduceAdd, reduceIte, eq_self, IntKind.bits, litA, appSrc, frzV, frzL, mkElt, List.replicate, List.set, Nat.reduceLeDiff, Nat.reduceBEq, Nat.reduceLT, decide_true, decide_false, List.getElem?_cons_zero, List.getElem?_cons_succ, List.getElem?_nil, Nat.reduceSub, gt_iff_lt, ge_iff_le, Int.reduceLT, Int.reduceLE, Int.reduceEq, Int.cast_ofNat_Int, Int.reduceToNat, implies_true, forall_const, Nat.reduceMul, keyV, elN, eqCells, binS, Ret, newElt, fillA, bound, aidxV, bNe ho, bNe hr, bNe' ho, bNe' hr, mo, mr]
  refine vAny [0, 1, 2, 3, 4, 5, 6, 7, 8, 9, 10] 10 (threeL o r (b + 4)) (by kernel_rfl) (by kernel_rfl) ?_
  simp -implicitDefEqProofs only [vq0, vq1, vq2, vq3, vq4, vq5, vq6, vq7, vq8, vq9, vqc, vqj, vqf, AI.val, EI.run, binI, kEq, env0, RetF, retL, retV, frzAL, part?, List.drop, List.take, List.all, List.length, List.map, List.append, List.nil_append, List.cons_append, List.append_nil, List.getD_cons_zero, List.getD_cons_succ, List.getD_nil, Option.map_some, Option.map_none, cond_true, cond_false, Nat.reduceEqDiff, Nat.reduceAdd, reduceIte, eq_self, IntKind.bits, litA, appSrc, frzV, frzL, mkElt, List.replicate, List.set, Nat.reduceLeDiff, Nat.reduceBEq, Nat.reduceLT, decide_true, decide_false, List.getElem?_cons_zero, List.getElem?_cons_succ, List.getElem?_nil, Nat.reduceSub, gt_iff_lt, ge_iff_le, Int.reduceLT, Int.reduceLE, Int.reduceEq, Int.cast_ofNat_Int, Int.reduceToNat, implies_true, forall_const, Nat.reduceMul, keyV, elN, eqCells, binS, Ret, newElt, fillA, bound, aidxV, q1, q2, q3, agree_three, bEq, lenV, idxV, loadV, storeV, bNe ho, bNe hr, bNe' ho, bNe' hr, mo, mr, mi, hq', hg, e1, e2, e3, e4, e5, e6, e7, e8, e9, e10]
  refine ⟨by omega, hq, ⟨by omega, by omega⟩, by omega, hq, fun i hi h1 h2 => ?_⟩
  rw [if_neg h1, if_neg h2, if_neg (by omega), if_neg (by omega)]
end Go.Ab
