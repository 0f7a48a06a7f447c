/- Walks: a literal replaced. -/
import Derived.Test.YtodncnlnadgkhaaSaGLit0
import Derived.Test.YtodncnlnadgkhaaFwT
set_option linter.unusedSimpArgs false
set_option linter.unusedVariables false
namespace Go.Ab
open Go
def a153 : AC := (.seq (.ops [⟨(some 3), none, (.v (.mv (.c (.int .i64 0))))⟩]) (.seq (.ops [⟨(some 4), none, (.v (.load 1 false (.t 1)))⟩, ⟨(some 5), none, (.v (.mv (.t 0)))⟩, ⟨(some 6), none, (.v (.bin .quo (.t 5) (.c (.int .i64 2))))⟩, ⟨(some 7), none, (.v (.idx 1 (.t 4) (.t 6)))⟩, ⟨(some 8), none, (.v (.load 1 false (.t 7)))⟩, ⟨(some 9), none, (.v (.mv (.t 0)))⟩, ⟨(some 10), none, (.v (.bin .rem (.t 9) (.c (.int .i64 2))))⟩, ⟨(some 11), none, (.v (.bin .xor (.t 8) (.t 10)))⟩, ⟨(some 3), none, (.v (.mv (.t 11)))⟩]) .ret))
def r153 : List AI := [(.mv (.t 3))]
theorem f153 : Fn PP 153 2 a153 r153 := Fn.of (fn := Go.Proofs.Try.f153) (by kernel_rfl) (by kernel_rfl) (by kernel_rfl)
def mvL (to : Nat → Int) (l : Int) : Int := bitop .xor .i64 (to (ndx l)) (l % 2)

theorem p131r (n : Nat) (f : Nat → AV) (hf : ∀ i, i < n → (f i).cells.length = 3 ∧ (f i).cells.all AV.isCell = true) (hn : n ≤ 1048576) : CallW PP 131 [.fs n f] mem0 fun r m => (r = .cap0 ∧ n = 0) ∨ ∃ id ver e sz n' g, r = .sl id ver n' ∧ m id = .row ver e sz n' g ∧ (n' = n ∧ e = 114 ∧ sz = 3 ∧ ∀ i, i < n → g i = f i) := by
  refine Fn.call fmix f131 ?_
  unfold a131 r131
  simp -implicitDefEqProofs only [vqa, Nat.reduceEqDiff, Nat.reduceAdd, reduceIte, Nat.reduceLeDiff, Nat.reduceBEq, Nat.reduceLT, Nat.reduceSub, Int.reduceLT, Int.reduceLE, Int.reduceEq, Int.reduceToNat, Nat.reduceMul, eq_self, implies_true, forall_const]
  refine ⟨?_, fun h => .inl h⟩
  exact ⟨⟨hf, by omega, by omega⟩, .inr ⟨_, _, _, _, _, _, rfl, if_pos rfl, rfl, rfl, rfl, fun i hi => rfl⟩⟩

theorem p153 (n : Nat) (to : Nat → Int) (f : Nat → AV) (hf : ∀ i, i < n → f i = .int .i64 (to i)) {l : Int} (hl : litOk n l) (hn : n ≤ 4194304) : Pure PP 153 [.int .i64 l, .fp [.fs n f]] fun r => r = .int .i64 (mvL to l) := by
  have hlt := ndx_lt hl
  have wl := ndx_quo hl hn
  have wm := tmod_two hl.1
  refine Fn.pure fmix f153 ?_
  unfold a153 r153
  simp -implicitDefEqProofs only [vqa, Nat.reduceEqDiff, Nat.reduceAdd, reduceIte, Nat.reduceLeDiff, Nat.reduceBEq, Nat.reduceLT, Nat.reduceSub, Int.reduceLT, Int.reduceLE, Int.reduceEq, Int.reduceToNat, Nat.reduceMul, eq_self, implies_true, forall_const, wl, wm, hf _ hlt]
  exact ⟨by decide, by omega, by decide, rfl⟩
end Go.Ab
