/- Walks: the closures of GraphRefuses. -/
import Derived.Test.YtodncnlnadgkhacSaMak5
import Derived.Test.YtodncnlnadgkhacSaGFau0
set_option linter.unusedSimpArgs false
set_option linter.unusedVariables false
namespace Go.Ab
open Go
def a20 : AC := (.seq (.ops [⟨(some 3), none, (.v (.mv (.c (.bool false))))⟩]) (.seq (.ops [⟨(some 4), none, (.v (.mv (.t 0)))⟩, ⟨(some 5), none, (.v (.bin .lss (.t 4) (.c (.int .i64 0))))⟩, ⟨(some 6), none, (.v (.mv (.t 5)))⟩, ⟨(some 7), (some (6, false)), (.v (.mv (.t 0)))⟩, ⟨(some 8), (some (6, false)), (.v (.bin .shr (.t 7) (.c (.int .u64 1))))⟩, ⟨(some 9), (some (6, false)), (.v (.load 1 false (.t 1)))⟩, ⟨(some 10), (some (6, false)), (.v (.bin .geq (.t 8) (.t 9)))⟩, ⟨(some 11), none, (.v (.pick (.t 6) (.c (.bool true)) (.t 10)))⟩, ⟨(some 3), none, (.v (.mv (.t 11)))⟩]) .ret))
def r20 : List AI := [(.mv (.t 3))]
theorem f20 : Fn PP 20 2 a20 r20 := Fn.of (fn := Go.Proofs.Try.f20) (by kernel_rfl) (by kernel_rfl) (by kernel_rfl)
def a22 : AC := (.seq (.any [⟨(some 5), none, (.v (.load 1 false (.t 1)))⟩, ⟨(some 6), none, (.v (.mv (.t 0)))⟩, ⟨(some 7), none, (.v (.slc 1 (.t 5) none (some (.t 6))))⟩, ⟨(some 8), none, (.v (.load 1 false (.t 2)))⟩, ⟨(some 9), none, (.call (.c (.fn 23 [])) [(.t 7), (.t 8)])⟩] [[], [], [0, 1], [], [2, 3]]) (.cond (.t 9) (.ops [⟨none, none, (.e (.store 1 (.t 3) (.c (.int .i64 2))))⟩]) .skip))
def r22 : List AI := []
theorem f22 : Fn PP 22 4 a22 r22 := Fn.of (fn := Go.Proofs.Try.f22) (by kernel_rfl) (by kernel_rfl) (by kernel_rfl)
def a6 : AC := (.seq (.ops [⟨(some 4), none, (.v (.mv (.c (.int .i64 0))))⟩]) (.seq (.seq (.ops [⟨(some 5), none, (.v (.mv (.t 1)))⟩, ⟨(some 6), none, (.v (.bin .lss (.t 5) (.c (.int .i64 1))))⟩]) (.cond (.t 6) (.seq (.ops [⟨(some 4), none, (.v (.mv (.c (.int .i64 0))))⟩]) .ret) .skip)) (.seq (.ops [⟨(some 7), none, (.v (.mv (.t 0)))⟩, ⟨(some 8), none, (.v (.mv (.t 1)))⟩, ⟨(some 9), none, (.v (.bin .rem (.t 7) (.t 8)))⟩, ⟨(some 0), none, (.v (.mv (.t 9)))⟩]) (.seq (.seq (.ops [⟨(some 10), none, (.v (.mv (.t 0)))⟩, ⟨(some 11), none, (.v (.bin .lss (.t 10) (.c (.int .i64 0))))⟩]) (.cond (.t 11) (.ops [⟨(some 12), none, (.v (.mv (.t 0)))⟩, ⟨(some 13), none, (.v (.mv (.t 1)))⟩, ⟨(some 14), none, (.v (.bin .add (.t 12) (.t 13)))⟩, ⟨(some 0), none, (.v (.mv (.t 14)))⟩]) .skip)) (.seq (.ops [⟨(some 15), none, (.v (.mv (.t 0)))⟩, ⟨(some 4), none, (.v (.mv (.t 15)))⟩]) .ret)))))
def r6 : List AI := [(.mv (.t 4))]
theorem f6 : Fn PP 6 2 a6 r6 := Fn.of (fn := Go.Proofs.Try.f6) (by kernel_rfl) (by kernel_rfl) (by kernel_rfl)
theorem p20 (k : Nat) (hk : k ≤ 16777216) (l : Int) : Pure PP 20 [.int .i64 l, .fp [.int .i64 (k : Nat)]] fun r => r = .bool (!decide (litOk k l)) := by
  refine Fn.pure fmix f20 ?_
  unfold a20 r20
  simp -implicitDefEqProofs only [vqa, Nat.reduceEqDiff, Nat.reduceAdd, reduceIte, Nat.reduceLeDiff, Nat.reduceBEq, Nat.reduceLT, Nat.reduceSub, Int.reduceLT, Int.reduceLE, Int.reduceEq, Int.reduceToNat, Nat.reduceMul, eq_self, implies_true, forall_const]
  refine ⟨fun h => ?_, fun h => ?_⟩
  · have e : l.fdiv (2 ^ min 1 64) = l / 2 := by
      rw [show (2 : Int) ^ min 1 64 = 2 from rfl, Int.fdiv_eq_ediv_of_nonneg _ (by decide)]
    rw [e]
    congr 1
    unfold litOk
    apply propext
    omega
  · have : ¬ litOk k l := fun k => by unfold litOk at k; omega
    simp [this]
theorem p53w (n : Nat) (x : Nat → Int) (f : Nat → AV) (k : Nat) (hk : k ≤ 16777216) (hf : ∀ i, i < n → f i = .int .i64 (x i)) (hn : n ≤ 1048580) : Pure PP 53 [.fs n f, .fn 20 [.fp [.int .i64 (k : Nat)]]] fun r => ∃ j : Int, r = .int .i64 j ∧ (0 ≤ j ↔ scan (fun i => badLit k (x i)) n ≠ 0) := by
  refine Fn.pure fmix f53 ?_
  unfold a53 r53
  simp -implicitDefEqProofs only [vqa, Nat.reduceEqDiff, Nat.reduceAdd, reduceIte, Nat.reduceLeDiff, Nat.reduceBEq, Nat.reduceLT, Nat.reduceSub, Int.reduceLT, Int.reduceLE, Int.reduceEq, Int.reduceToNat, Nat.reduceMul, eq_self, implies_true, forall_const]
  refine vFor n (fun i e m => e 0 = .fs n f ∧ e 1 = .fn 20 [.fp [.int .i64 (k : Nat)]] ∧ e 7 = .int .i64 n ∧ e 8 = .int .i64 i ∧ scan (fun i => badLit k (x i)) i = 0) ?_ ?_ ?_
  · simp -implicitDefEqProofs only [vqa, Nat.reduceEqDiff, Nat.reduceAdd, reduceIte, Nat.reduceLeDiff, Nat.reduceBEq, Nat.reduceLT, Nat.reduceSub, Int.reduceLT, Int.reduceLE, Int.reduceEq, Int.reduceToNat, Nat.reduceMul, eq_self, implies_true, forall_const]
    rfl
  · rintro i e m hi hi' ⟨h0, h1, h7, h8, hs⟩
    unfold a53_0
    simp -implicitDefEqProofs only [vqa, Nat.reduceEqDiff, Nat.reduceAdd, reduceIte, Nat.reduceLeDiff, Nat.reduceBEq, Nat.reduceLT, Nat.reduceSub, Int.reduceLT, Int.reduceLE, Int.reduceEq, Int.reduceToNat, Nat.reduceMul, eq_self, implies_true, forall_const, h0, h1, h7, h8, hi', hf i hi]
    refine ⟨by omega, ?_⟩
    refine CallW.sc (p20 k hk (x i)) rfl ⟨trivial, trivial, trivial⟩ fun r hr => ⟨by subst hr; rfl, ?_⟩
    subst hr
    by_cases hl : litOk k (x i)
    · rw [decide_eq_true hl]
      simp -implicitDefEqProofs only [vqa, Nat.reduceEqDiff, Nat.reduceAdd, reduceIte, Nat.reduceLeDiff, Nat.reduceBEq, Nat.reduceLT, Nat.reduceSub, Int.reduceLT, Int.reduceLE, Int.reduceEq, Int.reduceToNat, Nat.reduceMul, eq_self, implies_true, forall_const, h0, h1, h7, h8, Bool.not_true]
      exact ⟨hi, wI (by omega) (by omega), scan_step hs (by unfold badLit; rw [if_pos hl])⟩
    · rw [decide_eq_false hl]
      simp -implicitDefEqProofs only [vqa, Nat.reduceEqDiff, Nat.reduceAdd, reduceIte, Nat.reduceLeDiff, Nat.reduceBEq, Nat.reduceLT, Nat.reduceSub, Int.reduceLT, Int.reduceLE, Int.reduceEq, Int.reduceToNat, Nat.reduceMul, eq_self, implies_true, forall_const, h0, h1, h7, h8, Bool.not_false]
      refine ⟨_, rfl, fun _ => ?_, fun _ => by omega⟩
      rw [scan_stop hs (c := 2) (by unfold badLit; rw [if_neg hl]) (by decide) n hi]; decide
  · rintro e m ⟨h0, h1, h7, h8, hs⟩
    unfold a53_0
    simp -implicitDefEqProofs only [vqa, Nat.reduceEqDiff, Nat.reduceAdd, reduceIte, Nat.reduceLeDiff, Nat.reduceBEq, Nat.reduceLT, Nat.reduceSub, Int.reduceLT, Int.reduceLE, Int.reduceEq, Int.reduceToNat, Nat.reduceMul, eq_self, implies_true, forall_const, h0, h1, h7, h8]
    exact ⟨_, rfl, fun h => absurd h (by decide), fun h => absurd hs h⟩
theorem p23w (n : Nat) (x : Nat → Int) (f : Nat → AV) (k : Nat) (hk : k ≤ 16777216) (hf : ∀ i, i < n → f i = .int .i64 (x i)) (hn : n ≤ 1048580) : Pure PP 23 [.fs n f, .fn 20 [.fp [.int .i64 (k : Nat)]]] fun r => r = .bool (decide (scan (fun i => badLit k (x i)) n ≠ 0)) := by
  refine Fn.pure fmix f23 ?_
  unfold a23 r23
  simp -implicitDefEqProofs only [vqa, Nat.reduceEqDiff, Nat.reduceAdd, reduceIte, Nat.reduceLeDiff, Nat.reduceBEq, Nat.reduceLT, Nat.reduceSub, Int.reduceLT, Int.reduceLE, Int.reduceEq, Int.reduceToNat, Nat.reduceMul, eq_self, implies_true, forall_const]
  refine CallW.sc (p53w n x f k hk hf hn) rfl ⟨trivial, ⟨trivial, trivial⟩, trivial⟩ fun r ⟨j, hr, hj⟩ => ⟨by subst hr; rfl, ?_⟩
  subst hr
  simp -implicitDefEqProofs only [vqa, Nat.reduceEqDiff, Nat.reduceAdd, reduceIte, Nat.reduceLeDiff, Nat.reduceBEq, Nat.reduceLT, Nat.reduceSub, Int.reduceLT, Int.reduceLE, Int.reduceEq, Int.reduceToNat, Nat.reduceMul, eq_self, implies_true, forall_const]
  by_cases h : 0 ≤ j
  · simp [h, hj.1 h]
  · have : ¬ (scan (fun i => badLit k (x i)) n ≠ 0) := fun h2 => h (hj.2 h2)
    simp [h, this]

theorem p6 (x : Int) (hx : L64 x) : Pure PP 6 [.int .i64 x, .int .i64 7] fun r => ∃ j : Int, r = .int .i64 j ∧ 0 ≤ j ∧ j ≤ 6 := by
  have h1 := Int.tmod_lt_of_pos x (show (0 : Int) < 7 by decide)
  have h2 := Int.lt_tmod_of_pos x (show (0 : Int) < 7 by decide)
  refine Fn.pure fmix f6 ?_
  unfold a6 r6
  simp -implicitDefEqProofs only [vqa, Nat.reduceEqDiff, Nat.reduceAdd, reduceIte, Nat.reduceLeDiff, Nat.reduceBEq, Nat.reduceLT, Nat.reduceSub, Int.reduceLT, Int.reduceLE, Int.reduceEq, Int.reduceToNat, Nat.reduceMul, eq_self, implies_true, forall_const]
  refine ⟨by decide, fun h => ⟨_, rfl, ?_⟩, fun h => ⟨_, rfl, by omega, by omega⟩⟩
  rw [wI (by omega) (by omega)]; omega
/-- 'some': are there bad literals among the first n? -/
theorem p22 {mem : Mem} {V20 V21 V22 V23 id ver len n k : Nat} {x : Nat → Int} {f : Nat → AV} {w : Int} (m20 : mem 20 = .var V20 [.int .i64 (k : Nat)]) (m21 : mem 21 = .var V21 [.fn 20 [.ptr 20 V20 0]]) (m22 : mem 22 = .var V22 [.sl id ver len]) (m23 : mem 23 = .var V23 [.int .i64 w]) (mi : mem id = .row ver 35 1 len f) (hf : ∀ i, i < len → f i = .int .i64 (x i)) (hn : n ≤ len) (hlen : len ≤ 1048580) (hk : k ≤ 16777216) :
    CallW PP 22 [.int .i64 (n : Nat), .ptr 22 V22 0, .ptr 21 V21 0, .ptr 23 V23 0] mem fun r m => r = .tup [] ∧ m = if scan (fun i => badLit k (x i)) n ≠ 0 then Mem.set 23 (.var V23 [.int .i64 2]) mem else mem := by
  refine Fn.call fmix f22 ?_
  unfold a22 r22
  simp -implicitDefEqProofs only [vqa, Nat.reduceEqDiff, Nat.reduceAdd, reduceIte, Nat.reduceLeDiff, Nat.reduceBEq, Nat.reduceLT, Nat.reduceSub, Int.reduceLT, Int.reduceLE, Int.reduceEq, Int.reduceToNat, Nat.reduceMul, eq_self, implies_true, forall_const, m20, m21, m22, m23]
  refine vAny [0, 1, 3, 2, 4] 5 allL (by kernel_rfl) (by kernel_rfl) ?_
  simp -implicitDefEqProofs only [vqa, Nat.reduceEqDiff, Nat.reduceAdd, reduceIte, Nat.reduceLeDiff, Nat.reduceBEq, Nat.reduceLT, Nat.reduceSub, Int.reduceLT, Int.reduceLE, Int.reduceEq, Int.reduceToNat, Nat.reduceMul, eq_self, implies_true, forall_const, m20, m21, m22, m23, mi]
  refine ⟨⟨by omega, by omega⟩, ?_⟩
  refine CallW.sc (p23w n x f k hk (fun i hi => hf i (by omega)) (by omega)) ?_ ?_ fun r hr => ⟨by subst hr; rfl, ?_⟩
  · simp only [rsC, rs2, rs1, rs0, vqa, Nat.reduceEqDiff, Nat.reduceAdd, reduceIte, Nat.reduceLeDiff, Nat.reduceBEq, Nat.reduceLT, Nat.reduceSub, Int.reduceLT, Int.reduceLE, Int.reduceEq, Int.reduceToNat, Nat.reduceMul, eq_self, implies_true, forall_const, mi, m20]
  · simp only [rsC, rs2, rs1, rs0, vqa, Nat.reduceEqDiff, Nat.reduceAdd, reduceIte, Nat.reduceLeDiff, Nat.reduceBEq, Nat.reduceLT, Nat.reduceSub, Int.reduceLT, Int.reduceLE, Int.reduceEq, Int.reduceToNat, Nat.reduceMul, eq_self, implies_true, forall_const, mi, m20]
  subst hr
  simp -implicitDefEqProofs only [vqa, Nat.reduceEqDiff, Nat.reduceAdd, reduceIte, Nat.reduceLeDiff, Nat.reduceBEq, Nat.reduceLT, Nat.reduceSub, Int.reduceLT, Int.reduceLE, Int.reduceEq, Int.reduceToNat, Nat.reduceMul, eq_self, implies_true, forall_const, m23]
  exact ⟨fun h => by rw [if_pos h], fun h => by rw [if_neg h]⟩
theorem scan_bad_iff (k : Nat) (x : Nat → Int) : ∀ n, scan (fun i => badLit k (x i)) n ≠ 0 ↔ ∃ i, i < n ∧ ¬ litOk k (x i) := fun n => by
  constructor
  · intro h
    refine Classical.byContradiction fun hc => h ?_
    induction n with
    | zero => rfl
    | succ n ih =>
      refine scan_step (Classical.byContradiction fun h2 => hc ?_) ?_
      · refine absurd (ih h2 fun ⟨i, hi, hb⟩ => hc ⟨i, by omega, hb⟩) h2
      · show badLit k (x n) = 0
        unfold badLit
        rw [if_pos (Classical.byContradiction fun hb => hc ⟨n, by omega, hb⟩)]
  · rintro ⟨i, hi, hb⟩ h
    exact hb (badLit_zero (scan_zero h i hi))
theorem p21s (n : Nat) (f : Nat → AV) (hf : ∀ i, i < n → (f i).cells.length = 1 ∧ (f i).cells.all AV.isCell = true) (hn : n ≤ 1048576) : CallW PP 21 [.fs n f] mem0 fun r m => (r = .cap0 ∧ n = 0) ∨ ∃ id ver e sz n' g, r = .sl id ver n' ∧ m id = .row ver e sz n' g ∧ (n' = n ∧ e = 35 ∧ sz = 1 ∧ ∀ i, i < n → g i = f i) := by
  refine Fn.call fmix f21 ?_
  unfold a21 r21
  simp -implicitDefEqProofs only [vqa, Nat.reduceEqDiff, Nat.reduceAdd, reduceIte, Nat.reduceLeDiff, Nat.reduceBEq, Nat.reduceLT, Nat.reduceSub, Int.reduceLT, Int.reduceLE, Int.reduceEq, Int.reduceToNat, Nat.reduceMul, eq_self, implies_true, forall_const]
  refine ⟨?_, fun h => .inl h⟩
  exact ⟨⟨hf, by omega, by omega⟩, .inr ⟨_, _, _, _, _, _, rfl, if_pos rfl, rfl, rfl, rfl, fun i hi => rfl⟩⟩
/-- The graph's error hangs on the operands of the ands only by their being of nodes in front. -/
theorem graphF_ands {G : Gra} {A B : Nat → Int} (h1 : ∀ i, i < G.na → litOk (G.base + i) (G.A i) ∧ litOk (G.base + i) (G.B i)) (h2 : ∀ i, i < G.na → litOk (G.base + i) (A i) ∧ litOk (G.base + i) (B i)) : graphF { G with A := A, B := B } = graphF G := by
  have e1 : scan (andAt G) G.na = 0 := by
    have : ∀ n, n ≤ G.na → scan (andAt G) n = 0 := fun n => by
      induction n with
      | zero => exact fun _ => rfl
      | succ n ih => exact fun hn => scan_step (ih (by omega)) (by unfold andAt; rw [if_pos (h1 n (by omega))])
    exact this _ (Nat.le_refl _)
  have e2 : scan (andAt { G with A := A, B := B }) G.na = 0 := by
    have : ∀ n, n ≤ G.na → scan (andAt { G with A := A, B := B }) n = 0 := fun n => by
      induction n with
      | zero => exact fun _ => rfl
      | succ n ih => exact fun hn => scan_step (ih (by omega)) (by unfold andAt; exact if_pos (h2 n (by omega)))
    exact this _ (Nat.le_refl _)
  unfold graphF
  show (if 128 < G.ni ∨ _ then (3 : Int) else _) = _
  have n1 : ({ G with A := A, B := B } : Gra).names = G.names := rfl
  simp only [n1, e1, e2]
  rfl
end Go.Ab
