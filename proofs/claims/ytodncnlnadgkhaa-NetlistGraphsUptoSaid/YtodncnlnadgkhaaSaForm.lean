/- Walk: slices.Equal of whole numbers. -/
import Derived.Test.YtodncnlnadgkhaaSaNames
import Derived.Test.YtodncnlnadgkhaaSaMak0
import Derived.Test.YtodncnlnadgkhaaLwLevel
set_option linter.unusedSimpArgs false
set_option linter.unusedVariables false
namespace Go.Ab
open Go
def a29 : AC := (.seq (.ops [⟨(some 1), none, (.e (.box 1 0 (.t 0)))⟩, ⟨(some 2), none, (.v (.mv (.c (.int .i64 0))))⟩]) (.seq (.ops [⟨(some 3), none, (.v (.fld 0 (.t 1)))⟩, ⟨(some 4), none, (.v (.load 1 false (.t 3)))⟩, ⟨(some 5), none, (.v (.len (.t 4)))⟩, ⟨(some 6), none, (.v (.bin .add (.c (.int .i64 2)) (.t 5)))⟩, ⟨(some 7), none, (.v (.fld 2 (.t 1)))⟩, ⟨(some 8), none, (.v (.load 1 false (.t 7)))⟩, ⟨(some 9), none, (.v (.len (.t 8)))⟩, ⟨(some 10), none, (.v (.bin .add (.t 6) (.t 9)))⟩, ⟨(some 2), none, (.v (.mv (.t 10)))⟩]) .ret))
def r29 : List AI := [(.mv (.t 2))]
theorem f29 : Fn PP 29 1 a29 r29 := Fn.of (fn := Go.Proofs.Try.f29) (by kernel_rfl) (by kernel_rfl) (by kernel_rfl)
def a28 : AC := (.seq (.ops [⟨(some 1), none, (.e (.box 1 0 (.t 0)))⟩, ⟨(some 2), none, (.v (.mv (.c (.int .i64 0))))⟩]) (.seq (.any [⟨(some 3), none, (.v (.load 5 true (.t 1)))⟩, ⟨(some 4), none, (.call (.c (.fn 29 [])) [(.t 3)])⟩, ⟨(some 5), none, (.v (.fld 3 (.t 1)))⟩, ⟨(some 6), none, (.v (.load 1 false (.t 5)))⟩, ⟨(some 7), none, (.v (.len (.t 6)))⟩, ⟨(some 8), none, (.v (.bin .add (.t 4) (.t 7)))⟩, ⟨(some 2), none, (.v (.mv (.t 8)))⟩] [[], [0], [], [2], [3], [1, 4], [5, 1, 0, 1, 2, 3, 4, 5]]) .ret))
def r28 : List AI := [(.mv (.t 2))]
theorem f28 : Fn PP 28 1 a28 r28 := Fn.of (fn := Go.Proofs.Try.f28) (by kernel_rfl) (by kernel_rfl) (by kernel_rfl)
def a76_0 : AC := (.seq (.ops [⟨(some 14), none, (.v (.bin .lss (.t 13) (.t 12)))⟩]) (.seq (.cond (.t 14) .skip (.exit 0)) (.seq (.block 1 (.seq (.ops [⟨(some 15), none, (.v (.idx 5 (.t 11) (.t 13)))⟩, ⟨(some 16), none, (.v (.load 5 true (.t 15)))⟩, ⟨(some 5), none, (.e (.alloc 5 [(.str ⟨#[]⟩), (.int .i64 0), (.int .i64 0), (.int .i64 0), (.bool false)]))⟩, ⟨none, none, (.e (.store 5 (.t 5) (.t 16)))⟩]) (.seq (.ops [⟨(some 17), none, (.v (.fld 2 (.t 5)))⟩, ⟨(some 18), none, (.v (.load 1 false (.t 17)))⟩, ⟨(some 19), none, (.v (.bin .lss (.t 18) (.c (.int .i64 0))))⟩, ⟨(some 20), none, (.v (.mv (.t 19)))⟩, ⟨(some 21), (some (20, false)), (.v (.fld 2 (.t 5)))⟩, ⟨(some 22), (some (20, false)), (.v (.load 1 false (.t 21)))⟩, ⟨(some 23), (some (20, false)), (.v (.mv (.t 3)))⟩, ⟨(some 24), (some (20, false)), (.v (.bin .geq (.t 22) (.t 23)))⟩, ⟨(some 25), none, (.v (.pick (.t 20) (.c (.bool true)) (.t 24)))⟩, ⟨(some 26), none, (.v (.mv (.t 25)))⟩, ⟨(some 27), (some (26, false)), (.v (.fld 3 (.t 5)))⟩, ⟨(some 28), (some (26, false)), (.v (.load 1 false (.t 27)))⟩, ⟨(some 29), (some (26, false)), (.v (.bin .lss (.t 28) (.c (.int .i64 0))))⟩, ⟨(some 30), none, (.v (.pick (.t 26) (.c (.bool true)) (.t 29)))⟩, ⟨(some 31), none, (.v (.mv (.t 30)))⟩, ⟨(some 32), (some (31, false)), (.v (.fld 3 (.t 5)))⟩, ⟨(some 33), (some (31, false)), (.v (.load 1 false (.t 32)))⟩, ⟨(some 34), (some (31, false)), (.v (.mv (.t 3)))⟩, ⟨(some 35), (some (31, false)), (.v (.bin .geq (.t 33) (.t 34)))⟩, ⟨(some 36), none, (.v (.pick (.t 31) (.c (.bool true)) (.t 35)))⟩]) (.cond (.t 36) (.seq (.ops [⟨(some 2), none, (.v (.mv (.c (.int .i64 2))))⟩]) .ret) .skip)))) (.ops [⟨(some 37), none, (.v (.bin .add (.t 13) (.c (.int .i64 1))))⟩, ⟨(some 13), none, (.v (.mv (.t 37)))⟩]))))
def a76_1 : AC := (.seq (.ops [⟨(some 42), none, (.v (.bin .lss (.t 41) (.t 40)))⟩]) (.seq (.cond (.t 42) .skip (.exit 2)) (.seq (.block 3 (.seq (.ops [⟨(some 43), none, (.v (.idx 1 (.t 39) (.t 41)))⟩, ⟨(some 44), none, (.v (.load 1 false (.t 43)))⟩, ⟨(some 7), none, (.v (.mv (.t 44)))⟩]) (.seq (.ops [⟨(some 45), none, (.v (.mv (.t 7)))⟩, ⟨(some 46), none, (.v (.bin .lss (.t 45) (.c (.int .i64 0))))⟩, ⟨(some 47), none, (.v (.mv (.t 46)))⟩, ⟨(some 48), (some (47, false)), (.v (.mv (.t 7)))⟩, ⟨(some 49), (some (47, false)), (.v (.mv (.t 3)))⟩, ⟨(some 50), (some (47, false)), (.v (.bin .geq (.t 48) (.t 49)))⟩, ⟨(some 51), none, (.v (.pick (.t 47) (.c (.bool true)) (.t 50)))⟩]) (.cond (.t 51) (.seq (.ops [⟨(some 2), none, (.v (.mv (.c (.int .i64 2))))⟩]) .ret) .skip)))) (.ops [⟨(some 52), none, (.v (.bin .add (.t 41) (.c (.int .i64 1))))⟩, ⟨(some 41), none, (.v (.mv (.t 52)))⟩]))))
def a76 : AC := (.seq (.ops [⟨(some 1), none, (.e (.box 1 0 (.t 0)))⟩, ⟨(some 2), none, (.v (.mv (.c (.int .i64 0))))⟩]) (.seq (.ops [⟨(some 8), none, (.v (.load 5 true (.t 1)))⟩, ⟨(some 9), none, (.call (.c (.fn 28 [])) [(.t 8)])⟩, ⟨(some 3), none, (.v (.mv (.t 9)))⟩]) (.seq (.seq (.ops [⟨(some 10), none, (.v (.fld 2 (.t 1)))⟩, ⟨(some 11), none, (.v (.load 1 false (.t 10)))⟩, ⟨(some 12), none, (.v (.len (.t 11)))⟩, ⟨(some 13), none, (.v (.mv (.c (.int .i64 0))))⟩]) (.block 0 (.loop a76_0))) (.seq (.seq (.ops [⟨(some 38), none, (.v (.fld 4 (.t 1)))⟩, ⟨(some 39), none, (.v (.load 1 false (.t 38)))⟩, ⟨(some 40), none, (.v (.len (.t 39)))⟩, ⟨(some 41), none, (.v (.mv (.c (.int .i64 0))))⟩]) (.block 2 (.loop a76_1))) (.seq (.ops [⟨(some 2), none, (.v (.mv (.c (.int .i64 0))))⟩]) .ret)))))
def r76 : List AI := [(.mv (.t 2))]
theorem f76 : Fn PP 76 1 a76 r76 := Fn.of (fn := Go.Proofs.Try.f76) (by kernel_rfl) (by kernel_rfl) (by kernel_rfl)
def a22 : AC := (.seq (.ops [⟨(some 2), none, (.v (.mv (.c (.int .u64 0))))⟩]) (.seq (.block 0 (.seq (.ops [⟨(some 4), none, (.v (.mv (.t 0)))⟩, ⟨(some 5), none, (.v (.bin .lss (.t 4) (.c (.int .i64 0))))⟩, ⟨(some 6), none, (.v (.mv (.t 5)))⟩, ⟨(some 7), (some (6, false)), (.v (.mv (.t 0)))⟩, ⟨(some 8), (some (6, false)), (.v (.bin .gtr (.t 7) (.c (.int .i64 6))))⟩, ⟨(some 9), none, (.v (.pick (.t 6) (.c (.bool true)) (.t 8)))⟩, ⟨(some 3), none, (.v (.mv (.t 9)))⟩]) (.cond (.t 3) (.seq (.ops [⟨(some 2), none, (.v (.mv (.c (.int .u64 0))))⟩]) .ret) (.seq (.ops [⟨(some 11), none, (.v (.mv (.t 0)))⟩, ⟨(some 12), none, (.v (.bin .eql (.t 11) (.c (.int .i64 6))))⟩, ⟨(some 10), none, (.v (.mv (.t 12)))⟩]) (.cond (.t 10) (.seq (.ops [⟨(some 2), none, (.v (.mv (.c (.int .u64 18446744073709551615))))⟩]) .ret) .skip))))) (.seq (.ops [⟨(some 13), none, (.v (.mv (.t 0)))⟩, ⟨(some 14), none, (.v (.bin .shl (.c (.int .u64 1)) (.t 13)))⟩, ⟨(some 15), none, (.v (.bin .shl (.c (.int .u64 1)) (.t 14)))⟩, ⟨(some 16), none, (.v (.bin .sub (.t 15) (.c (.int .u64 1))))⟩, ⟨(some 2), none, (.v (.mv (.t 16)))⟩]) .ret)))
def r22 : List AI := [(.mv (.t 2))]
theorem f22 : Fn PP 22 1 a22 r22 := Fn.of (fn := Go.Proofs.Try.f22) (by kernel_rfl) (by kernel_rfl) (by kernel_rfl)
theorem p29 {N : Net} {cs : List AV} (hN : NetC cs N) (ok : N.Ok) : Pure PP 29 [.agg cs] fun r => r = .int .i64 (N.first : Nat) := by
  obtain ⟨f0, f1, f2, f3, f4, rfl, _⟩ := hN
  have h1 := ok.ni; have h2 := ok.nf
  refine Fn.pure fmix f29 ?_
  unfold a29 r29
  simp -implicitDefEqProofs only [vqa, Nat.reduceEqDiff, Nat.reduceAdd, reduceIte, Nat.reduceLeDiff, Nat.reduceBEq, Nat.reduceLT, Nat.reduceSub, Int.reduceLT, Int.reduceLE, Int.reduceEq, Int.reduceToNat, Nat.reduceMul, eq_self, implies_true, forall_const]
  rw [wI (n := 2 + (N.ni : Int)) (by omega) (by omega), wI (by omega) (by omega)]
  unfold Net.first; omega

theorem p28 {N : Net} {cs : List AV} (hN : NetC cs N) (ok : N.Ok) : Pure PP 28 [.agg cs] fun r => r = .int .i64 (N.nets : Nat) := by
  have p := p29 hN ok
  obtain ⟨f0, f1, f2, f3, f4, rfl, _⟩ := hN
  have h1 := ok.ni; have h2 := ok.nf; have h3 := ok.ng
  refine Fn.pure fmix f28 ?_
  unfold a28 r28
  simp -implicitDefEqProofs only [vqa, Nat.reduceEqDiff, Nat.reduceAdd, reduceIte, Nat.reduceLeDiff, Nat.reduceBEq, Nat.reduceLT, Nat.reduceSub, Int.reduceLT, Int.reduceLE, Int.reduceEq, Int.reduceToNat, Nat.reduceMul, eq_self, implies_true, forall_const]
  refine vAny [0, 2, 3, 4, 1, 5, 6] 7 allL rfl rfl ?_
  simp -implicitDefEqProofs only [vqa, Nat.reduceEqDiff, Nat.reduceAdd, reduceIte, Nat.reduceLeDiff, Nat.reduceBEq, Nat.reduceLT, Nat.reduceSub, Int.reduceLT, Int.reduceLE, Int.reduceEq, Int.reduceToNat, Nat.reduceMul, eq_self, implies_true, forall_const]
  refine CallW.sc p rfl ?_ fun r hr => ⟨by subst hr; rfl, ?_⟩
  · simp only [rsC, rs2, rs1, rs0, vqa, Nat.reduceEqDiff, Nat.reduceAdd, reduceIte, Nat.reduceLeDiff, Nat.reduceBEq, Nat.reduceLT, Nat.reduceSub, Int.reduceLT, Int.reduceLE, Int.reduceEq, Int.reduceToNat, Nat.reduceMul, eq_self, implies_true, forall_const]
  subst hr
  simp -implicitDefEqProofs only [vqa, Nat.reduceEqDiff, Nat.reduceAdd, reduceIte, Nat.reduceLeDiff, Nat.reduceBEq, Nat.reduceLT, Nat.reduceSub, Int.reduceLT, Int.reduceLE, Int.reduceEq, Int.reduceToNat, Nat.reduceMul, eq_self, implies_true, forall_const]
  rw [wI (by unfold Net.first; omega) (by unfold Net.first; omega)]
  unfold Net.nets; omega

theorem p74 (n : Nat) (x : Nat → ByteArray) (f : Nat → AV) (hf : ∀ i, i < n → f i = .str (x i)) (hn : n ≤ 1048576) : CallW PP 74 [.fs n f] mem0 fun r m => (r = .cap0 ∧ n = 0) ∨ ∃ id ver e sz n' g, r = .sl id ver n' ∧ m id = .row ver e sz n' g ∧ (n' = n ∧ e = 9 ∧ sz = 1 ∧ ∀ i, i < n → g i = .str (x i)) := by
  refine Fn.call fmix f74 ?_
  unfold a74 r74
  simp -implicitDefEqProofs only [vqa, Nat.reduceEqDiff, Nat.reduceAdd, reduceIte, Nat.reduceLeDiff, Nat.reduceBEq, Nat.reduceLT, Nat.reduceSub, Int.reduceLT, Int.reduceLE, Int.reduceEq, Int.reduceToNat, Nat.reduceMul, eq_self, implies_true, forall_const]
  refine ⟨?_, fun h => .inl h⟩
  refine ⟨⟨fun i hi => ?_, by omega, by omega⟩, .inr ⟨_, _, _, _, _, _, rfl, if_pos rfl, rfl, rfl, rfl, hf⟩⟩
  rw [hf i hi]; exact ⟨rfl, rfl⟩

theorem p76 {N : Net} {cs : List AV} (hN : NetC cs N) (ok : N.Ok) : Pure PP 76 [.agg cs] fun r => r = .int .i64 (if scan (flopAt N) N.nf ≠ 0 then 2 else scan (fun i => badNet N.nets (N.outs i)) N.nk) := by
  have p := p28 hN ok
  obtain ⟨f0, f1, f2, f3, f4, rfl, g0, g1, g2, g3, g4⟩ := hN
  refine Fn.pure fmix f76 ?_
  unfold a76 r76
  simp -implicitDefEqProofs only [vqa, Nat.reduceEqDiff, Nat.reduceAdd, reduceIte, Nat.reduceLeDiff, Nat.reduceBEq, Nat.reduceLT, Nat.reduceSub, Int.reduceLT, Int.reduceLE, Int.reduceEq, Int.reduceToNat, Nat.reduceMul, eq_self, implies_true, forall_const]
  refine CallW.sc p rfl ?_ fun r hr => ⟨by subst hr; rfl, ?_⟩
  · simp only [rsC, rs2, rs1, rs0, vqa, Nat.reduceEqDiff, Nat.reduceAdd, reduceIte, Nat.reduceLeDiff, Nat.reduceBEq, Nat.reduceLT, Nat.reduceSub, Int.reduceLT, Int.reduceLE, Int.reduceEq, Int.reduceToNat, Nat.reduceMul, eq_self, implies_true, forall_const]
  subst hr
  simp -implicitDefEqProofs only [vqa, Nat.reduceEqDiff, Nat.reduceAdd, reduceIte, Nat.reduceLeDiff, Nat.reduceBEq, Nat.reduceLT, Nat.reduceSub, Int.reduceLT, Int.reduceLE, Int.reduceEq, Int.reduceToNat, Nat.reduceMul, eq_self, implies_true, forall_const]
  have bz : ∀ k : Int, (k < 0 → badNet N.nets k = 2) ∧ (¬ k < 0 → (N.nets : Int) ≤ k → badNet N.nets k = 2) ∧ (¬ k < 0 → ¬ (N.nets : Int) ≤ k → badNet N.nets k = 0) := fun k => by
    unfold badNet
    refine ⟨fun h => by rw [if_pos (.inl h)], fun _ h => by rw [if_pos (.inr h)], fun h1 h2 => by rw [if_neg (by omega)]⟩
  have fin2 : scan (flopAt N) N.nf ≠ 0 → (2 : Int) = if scan (flopAt N) N.nf ≠ 0 then 2 else scan (fun i => badNet N.nets (N.outs i)) N.nk := fun h => by rw [if_pos h]
  have hnf := ok.nf; have hnk := ok.nk
  refine vFor N.nf (fun i e m => e 3 = .int .i64 (N.nets : Nat) ∧ e 11 = .fs N.nf f2 ∧ e 12 = .int .i64 N.nf ∧ e 13 = .int .i64 i ∧ scan (flopAt N) i = 0 ∧ ∃ ver, e 1 = .ptr 1 ver 0 ∧ m 1 = .var ver [.fs N.ni f0, .fs N.no f1, .fs N.nf f2, .fs N.ng f3, .fs N.nk f4]) ?_ ?_ ?_
  · simp -implicitDefEqProofs only [vqa, Nat.reduceEqDiff, Nat.reduceAdd, reduceIte, Nat.reduceLeDiff, Nat.reduceBEq, Nat.reduceLT, Nat.reduceSub, Int.reduceLT, Int.reduceLE, Int.reduceEq, Int.reduceToNat, Nat.reduceMul, eq_self, implies_true, forall_const]
    exact ⟨rfl, _, rfl, rfl⟩
  · rintro i e m hi hi' ⟨h3, h11, h12, h13, hs, ver, h1, hm⟩
    unfold a76_0
    simp -implicitDefEqProofs only [vqa, Nat.reduceEqDiff, Nat.reduceAdd, reduceIte, Nat.reduceLeDiff, Nat.reduceBEq, Nat.reduceLT, Nat.reduceSub, Int.reduceLT, Int.reduceLE, Int.reduceEq, Int.reduceToNat, Nat.reduceMul, eq_self, implies_true, forall_const, h3, h11, h12, h13, h1, hm, hi', g2 i hi, FlopV.av]
    obtain ⟨a1, a2, a3⟩ := bz (N.flop i).d
    obtain ⟨b1, b2, b3⟩ := bz (N.flop i).en
    have st : flopAt N i = 2 → (2 : Int) = if scan (flopAt N) N.nf ≠ 0 then 2 else scan (fun i => badNet N.nets (N.outs i)) N.nk := fun h => fin2 (by rw [scan_stop hs h (by decide) _ hi]; decide)
    have fd : badNet N.nets (N.flop i).d = 2 → flopAt N i = 2 := fun h => by unfold flopAt; rw [h]; rfl
    have fe : badNet N.nets (N.flop i).d = 0 → flopAt N i = badNet N.nets (N.flop i).en := fun h => by unfold flopAt; rw [h]; rfl
    refine ⟨by omega, fun d1 => ⟨fun d2 => ⟨fun e1 => ⟨fun e2 => st ?_, fun e2 => ⟨hi, wI (by omega) (by omega), scan_step hs ?_, ver, rfl, rfl⟩⟩, fun e1 => st ?_⟩, fun d2 => st (fd (a2 d1 d2))⟩, fun d1 => st (fd (a1 d1))⟩
    · rw [fe (a3 d1 d2), b2 e1 e2]
    · rw [fe (a3 d1 d2), b3 e1 e2]
    · rw [fe (a3 d1 d2), b1 e1]
  · rintro e m ⟨h3, h11, h12, h13, hs, ver, h1, hm⟩
    unfold a76_0
    simp -implicitDefEqProofs only [vqa, Nat.reduceEqDiff, Nat.reduceAdd, reduceIte, Nat.reduceLeDiff, Nat.reduceBEq, Nat.reduceLT, Nat.reduceSub, Int.reduceLT, Int.reduceLE, Int.reduceEq, Int.reduceToNat, Nat.reduceMul, eq_self, implies_true, forall_const, h3, h11, h12, h13, h1, hm]
    rw [if_neg (by simpa using hs)]
    refine vFor N.nk (fun i e m => e 3 = .int .i64 (N.nets : Nat) ∧ e 39 = .fs N.nk f4 ∧ e 40 = .int .i64 N.nk ∧ e 41 = .int .i64 i ∧ scan (fun i => badNet N.nets (N.outs i)) i = 0) ?_ ?_ ?_
    · simp -implicitDefEqProofs only [vqa, Nat.reduceEqDiff, Nat.reduceAdd, reduceIte, Nat.reduceLeDiff, Nat.reduceBEq, Nat.reduceLT, Nat.reduceSub, Int.reduceLT, Int.reduceLE, Int.reduceEq, Int.reduceToNat, Nat.reduceMul, eq_self, implies_true, forall_const, h3]
      rfl
    · rintro i e m hi hi' ⟨h3, h39, h40, h41, hs⟩
      unfold a76_1
      simp -implicitDefEqProofs only [vqa, Nat.reduceEqDiff, Nat.reduceAdd, reduceIte, Nat.reduceLeDiff, Nat.reduceBEq, Nat.reduceLT, Nat.reduceSub, Int.reduceLT, Int.reduceLE, Int.reduceEq, Int.reduceToNat, Nat.reduceMul, eq_self, implies_true, forall_const, h3, h39, h40, h41, hi', g4 i hi]
      obtain ⟨a1, a2, a3⟩ := bz (N.outs i)
      exact ⟨by omega, fun d1 => ⟨fun d2 => (scan_stop hs (a2 d1 d2) (by decide) _ hi).symm, fun d2 => ⟨hi, wI (by omega) (by omega), scan_step hs (a3 d1 d2)⟩⟩, fun d1 => (scan_stop hs (a1 d1) (by decide) _ hi).symm⟩
    · rintro e m ⟨h3, h39, h40, h41, hs⟩
      unfold a76_1
      simp -implicitDefEqProofs only [vqa, Nat.reduceEqDiff, Nat.reduceAdd, reduceIte, Nat.reduceLeDiff, Nat.reduceBEq, Nat.reduceLT, Nat.reduceSub, Int.reduceLT, Int.reduceLE, Int.reduceEq, Int.reduceToNat, Nat.reduceMul, eq_self, implies_true, forall_const, h3, h39, h40, h41]
      exact hs.symm
end Go.Ab
namespace Go.Ab
open Go
def a24_0 : AC := (.seq (.ops [⟨(some 49), none, (.v (.bin .lss (.t 48) (.t 47)))⟩]) (.seq (.cond (.t 49) .skip (.exit 0)) (.seq (.block 1 (.seq (.ops [⟨(some 50), none, (.v (.idx 5 (.t 46) (.t 48)))⟩, ⟨(some 51), none, (.v (.load 5 true (.t 50)))⟩, ⟨(some 5), none, (.e (.alloc 5 [(.str ⟨#[]⟩), (.int .i64 0), (.int .i64 0), (.int .i64 0), (.bool false)]))⟩, ⟨none, none, (.e (.store 5 (.t 5) (.t 51)))⟩]) (.ops [⟨(some 52), none, (.v (.mv (.t 3)))⟩, ⟨(some 53), none, (.v (.fld 0 (.t 5)))⟩, ⟨(some 54), none, (.v (.load 1 false (.t 53)))⟩, ⟨(some 55), none, (.e (.lit 55 9 1 1 [(.str ⟨#[]⟩)] [(0, (.t 54))]))⟩, ⟨(some 56), none, (.e (.app 56 9 1 16 (.t 52) (.t 55)))⟩, ⟨(some 3), none, (.v (.mv (.t 56)))⟩]))) (.ops [⟨(some 57), none, (.v (.bin .add (.t 48) (.c (.int .i64 1))))⟩, ⟨(some 48), none, (.v (.mv (.t 57)))⟩]))))
def a24_2 : AC := (.seq (.ops [⟨(some 95), none, (.v (.bin .lss (.t 94) (.t 93)))⟩]) (.seq (.cond (.t 95) .skip (.exit 4)) (.seq (.block 5 (.seq (.ops [⟨(some 96), none, (.v (.idx 1 (.t 92) (.t 94)))⟩, ⟨(some 97), none, (.v (.load 1 false (.t 96)))⟩, ⟨(some 12), none, (.v (.mv (.t 97)))⟩]) (.seq (.ops [⟨(some 98), none, (.v (.mv (.t 12)))⟩, ⟨(some 99), none, (.v (.bin .lss (.t 98) (.c (.int .i64 0))))⟩, ⟨(some 100), none, (.v (.mv (.t 99)))⟩, ⟨(some 101), (some (100, false)), (.v (.mv (.t 12)))⟩, ⟨(some 102), (some (100, false)), (.v (.mv (.t 8)))⟩, ⟨(some 103), (some (100, false)), (.v (.mv (.t 9)))⟩, ⟨(some 104), (some (100, false)), (.v (.bin .add (.t 102) (.t 103)))⟩, ⟨(some 105), (some (100, false)), (.v (.bin .geq (.t 101) (.t 104)))⟩, ⟨(some 106), none, (.v (.pick (.t 100) (.c (.bool true)) (.t 105)))⟩]) (.cond (.t 106) (.seq (.ops [⟨(some 2), none, (.v (.mv (.c (.int .i64 2))))⟩]) .ret) .skip)))) (.ops [⟨(some 107), none, (.v (.bin .add (.t 94) (.c (.int .i64 1))))⟩, ⟨(some 94), none, (.v (.mv (.t 107)))⟩]))))
def a24_1 : AC := (.seq (.ops [⟨(some 75), none, (.v (.bin .lss (.t 74) (.t 73)))⟩]) (.seq (.cond (.t 75) .skip (.exit 2)) (.seq (.block 3 (.seq (.ops [⟨(some 76), none, (.v (.mv (.t 74)))⟩, ⟨(some 77), none, (.v (.idx 3 (.t 72) (.t 74)))⟩, ⟨(some 78), none, (.v (.load 3 true (.t 77)))⟩, ⟨(some 10), none, (.e (.alloc 10 [(.int .i64 0), (.int .u64 0), .cap0]))⟩, ⟨(some 9), none, (.v (.mv (.t 76)))⟩, ⟨none, none, (.e (.store 3 (.t 10) (.t 78)))⟩]) (.seq (.seq (.ops [⟨(some 79), none, (.v (.fld 2 (.t 10)))⟩, ⟨(some 80), none, (.v (.load 1 false (.t 79)))⟩, ⟨(some 81), none, (.v (.len (.t 80)))⟩, ⟨(some 82), none, (.v (.bin .gtr (.t 81) (.c (.int .i64 6))))⟩]) (.cond (.t 82) (.seq (.ops [⟨(some 2), none, (.v (.mv (.c (.int .i64 3))))⟩]) .ret) .skip)) (.seq (.seq (.any [⟨(some 83), none, (.v (.fld 1 (.t 10)))⟩, ⟨(some 84), none, (.v (.load 1 false (.t 83)))⟩, ⟨(some 85), none, (.v (.fld 2 (.t 10)))⟩, ⟨(some 86), none, (.v (.load 1 false (.t 85)))⟩, ⟨(some 87), none, (.v (.len (.t 86)))⟩, ⟨(some 88), none, (.call (.c (.fn 22 [])) [(.t 87)])⟩, ⟨(some 89), none, (.v (.bin .andNot (.t 84) (.t 88)))⟩, ⟨(some 90), none, (.v (.bin .neq (.t 89) (.c (.int .u64 0))))⟩] [[], [0], [], [2], [3], [4], [1, 5], [6]]) (.cond (.t 90) (.seq (.ops [⟨(some 2), none, (.v (.mv (.c (.int .i64 4))))⟩]) .ret) .skip)) (.seq (.ops [⟨(some 91), none, (.v (.fld 2 (.t 10)))⟩, ⟨(some 92), none, (.v (.load 1 false (.t 91)))⟩, ⟨(some 93), none, (.v (.len (.t 92)))⟩, ⟨(some 94), none, (.v (.mv (.c (.int .i64 0))))⟩]) (.block 4 (.loop a24_2))))))) (.ops [⟨(some 108), none, (.v (.bin .add (.t 74) (.c (.int .i64 1))))⟩, ⟨(some 74), none, (.v (.mv (.t 108)))⟩]))))
def a24 : AC := (.seq (.ops [⟨(some 1), none, (.e (.box 1 0 (.t 0)))⟩, ⟨(some 2), none, (.v (.mv (.c (.int .i64 0))))⟩]) (.seq (.seq (.ops [⟨(some 13), none, (.v (.fld 0 (.t 1)))⟩, ⟨(some 14), none, (.v (.load 1 false (.t 13)))⟩, ⟨(some 15), none, (.v (.len (.t 14)))⟩, ⟨(some 16), none, (.v (.bin .gtr (.t 15) (.c (.int .i64 128))))⟩, ⟨(some 17), none, (.v (.mv (.t 16)))⟩, ⟨(some 18), (some (17, false)), (.v (.fld 1 (.t 1)))⟩, ⟨(some 19), (some (17, false)), (.v (.load 1 false (.t 18)))⟩, ⟨(some 20), (some (17, false)), (.v (.len (.t 19)))⟩, ⟨(some 21), (some (17, false)), (.v (.bin .gtr (.t 20) (.c (.int .i64 128))))⟩, ⟨(some 22), none, (.v (.pick (.t 17) (.c (.bool true)) (.t 21)))⟩, ⟨(some 23), none, (.v (.mv (.t 22)))⟩, ⟨(some 24), (some (23, false)), (.v (.fld 2 (.t 1)))⟩, ⟨(some 25), (some (23, false)), (.v (.load 1 false (.t 24)))⟩, ⟨(some 26), (some (23, false)), (.v (.len (.t 25)))⟩, ⟨(some 27), (some (23, false)), (.v (.bin .gtr (.t 26) (.c (.int .i64 288))))⟩, ⟨(some 28), none, (.v (.pick (.t 23) (.c (.bool true)) (.t 27)))⟩, ⟨(some 29), none, (.v (.mv (.t 28)))⟩, ⟨(some 30), (some (29, false)), (.v (.fld 3 (.t 1)))⟩, ⟨(some 31), (some (29, false)), (.v (.load 1 false (.t 30)))⟩, ⟨(some 32), (some (29, false)), (.v (.len (.t 31)))⟩, ⟨(some 33), (some (29, false)), (.v (.bin .gtr (.t 32) (.c (.int .i64 1200))))⟩, ⟨(some 34), none, (.v (.pick (.t 29) (.c (.bool true)) (.t 33)))⟩]) (.cond (.t 34) (.seq (.ops [⟨(some 2), none, (.v (.mv (.c (.int .i64 3))))⟩]) .ret) .skip)) (.seq (.seq (.ops [⟨(some 35), none, (.v (.fld 1 (.t 1)))⟩, ⟨(some 36), none, (.v (.load 1 false (.t 35)))⟩, ⟨(some 37), none, (.v (.len (.t 36)))⟩, ⟨(some 38), none, (.v (.fld 4 (.t 1)))⟩, ⟨(some 39), none, (.v (.load 1 false (.t 38)))⟩, ⟨(some 40), none, (.v (.len (.t 39)))⟩, ⟨(some 41), none, (.v (.bin .neq (.t 37) (.t 40)))⟩]) (.cond (.t 41) (.seq (.ops [⟨(some 2), none, (.v (.mv (.c (.int .i64 4))))⟩]) .ret) .skip)) (.seq (.ops [⟨(some 42), none, (.v (.fld 0 (.t 1)))⟩, ⟨(some 43), none, (.v (.load 1 false (.t 42)))⟩, ⟨(some 44), none, (.call (.c (.fn 74 [])) [(.t 43)])⟩, ⟨(some 3), none, (.v (.mv (.t 44)))⟩]) (.seq (.seq (.ops [⟨(some 45), none, (.v (.fld 2 (.t 1)))⟩, ⟨(some 46), none, (.v (.load 1 false (.t 45)))⟩, ⟨(some 47), none, (.v (.len (.t 46)))⟩, ⟨(some 48), none, (.v (.mv (.c (.int .i64 0))))⟩]) (.block 0 (.loop a24_0))) (.seq (.seq (.ops [⟨(some 58), none, (.v (.mv (.t 3)))⟩, ⟨(some 59), none, (.call (.c (.fn 75 [])) [(.t 58)])⟩, ⟨(some 6), none, (.v (.mv (.t 59)))⟩]) (.seq (.ops [⟨(some 60), none, (.v (.mv (.t 6)))⟩, ⟨(some 61), none, (.v (.bin .neq (.t 60) (.c (.int .i64 0))))⟩]) (.cond (.t 61) (.seq (.ops [⟨(some 62), none, (.v (.mv (.t 6)))⟩, ⟨(some 2), none, (.v (.mv (.t 62)))⟩]) .ret) .skip))) (.seq (.seq (.ops [⟨(some 63), none, (.v (.fld 1 (.t 1)))⟩, ⟨(some 64), none, (.v (.load 1 false (.t 63)))⟩, ⟨(some 65), none, (.call (.c (.fn 75 [])) [(.t 64)])⟩, ⟨(some 7), none, (.v (.mv (.t 65)))⟩]) (.seq (.ops [⟨(some 66), none, (.v (.mv (.t 7)))⟩, ⟨(some 67), none, (.v (.bin .neq (.t 66) (.c (.int .i64 0))))⟩]) (.cond (.t 67) (.seq (.ops [⟨(some 68), none, (.v (.mv (.t 7)))⟩, ⟨(some 2), none, (.v (.mv (.t 68)))⟩]) .ret) .skip))) (.seq (.ops [⟨(some 69), none, (.v (.load 5 true (.t 1)))⟩, ⟨(some 70), none, (.call (.c (.fn 29 [])) [(.t 69)])⟩, ⟨(some 8), none, (.v (.mv (.t 70)))⟩]) (.seq (.seq (.ops [⟨(some 71), none, (.v (.fld 3 (.t 1)))⟩, ⟨(some 72), none, (.v (.load 1 false (.t 71)))⟩, ⟨(some 73), none, (.v (.len (.t 72)))⟩, ⟨(some 74), none, (.v (.mv (.c (.int .i64 0))))⟩]) (.block 2 (.loop a24_1))) (.seq (.ops [⟨(some 109), none, (.v (.load 5 true (.t 1)))⟩, ⟨(some 110), none, (.call (.c (.fn 76 [])) [(.t 109)])⟩, ⟨(some 2), none, (.v (.mv (.t 110)))⟩]) .ret))))))))))
def r24 : List AI := [(.mv (.t 2))]
theorem f24 : Fn PP 24 1 a24 r24 := Fn.of (fn := Go.Proofs.Try.f24) (by kernel_rfl) (by kernel_rfl) (by kernel_rfl)
theorem maskF_eq {n : Int} (h0 : 0 ≤ n) (h1 : n < 6) : maskF n = IntKind.u64.wrap (IntKind.u64.wrap (1 * 2 ^ min (IntKind.u64.wrap (1 * 2 ^ min n.toNat 64)).toNat 64) - 1) := by
  unfold maskF
  rw [if_neg (by omega), if_neg (by omega), if_neg (by omega)]
theorem p22 (n : Int) : Pure PP 22 [.int .i64 n] fun r => r = .int .u64 (maskF n) := by
  refine Fn.pure fmix f22 ?_
  unfold a22 r22
  simp -implicitDefEqProofs only [vqa, Nat.reduceEqDiff, Nat.reduceAdd, reduceIte, Nat.reduceLeDiff, Nat.reduceBEq, Nat.reduceLT, Nat.reduceSub, Int.reduceLT, Int.reduceLE, Int.reduceEq, Int.reduceToNat, Nat.reduceMul, eq_self, implies_true, forall_const]
  refine ⟨fun h0 => ⟨fun h1 => ?_, fun h1 => ⟨fun h2 => ?_, fun h2 => ⟨by omega, ?_, ?_⟩⟩⟩, fun h0 => ?_⟩
  · unfold maskF; rw [if_neg h0, if_pos h1]
  · unfold maskF; rw [if_neg h0, if_neg h1, if_pos h2]
  · rw [IntKind.wrap_u64]; omega
  · rw [maskF_eq (by omega) (by omega)]
  · unfold maskF; rw [if_pos h0]

/-- The names gathered so far. -/
def Gath (N : Net) (n : Nat) (v : AV) (m : Mem) : Prop := (n = 0 ∧ v = .cap0) ∨ (∃ ver g, v = .sl 44 ver n ∧ m 44 = .row ver 9 1 n g ∧ ∀ j, j < n → g j = .str (N.names j)) ∨ ∃ ver g, v = .sl 56 ver n ∧ m 56 = .row ver 9 1 n g ∧ ∀ j, j < n → g j = .str (N.names j)

theorem gath_row {N : Net} {n : Nat} {s : ByteArray} {g : Nat → AV} (hg : ∀ j, j < n → g j = .str (N.names j)) (hs : N.names n = s) : ∀ j, j < n + 1 → (bif decide (j < n) then g j else [AV.str s].getD (j - n) .undef) = .str (N.names j) := fun j hj => by
  by_cases h : j < n
  · simp only [h, decide_true, cond_true]; exact hg j h
  · obtain rfl : j = n := by omega
    simp only [Nat.lt_irrefl, decide_false, cond_false, Nat.sub_self, List.getD_cons_zero, hs]
theorem Gath.call {N : Net} {n : Nat} {v : AV} {m : Mem} {K : AV → Mem → Prop} (h : Gath N n v m) (hn : n ≤ 1048576) (hk : K (.int .i64 (namesF N.names n)) m) : CallW PP 75 [v] m K := by
  rcases h with ⟨rfl, rfl⟩ | ⟨ver, g, rfl, hm, hg⟩ | ⟨ver, g, rfl, hm, hg⟩
  · exact CallW.sc (p75 0 N.names (fun _ => .undef) (fun i hi => absurd hi (Nat.not_lt_zero _)) (by omega)) rfl ⟨trivial, trivial⟩ fun r hr => ⟨by subst hr; rfl, by subst hr; exact hk⟩
  · refine CallW.sc (p75 n N.names g hg hn) ?_ ?_ fun r hr => ⟨by subst hr; rfl, by subst hr; exact hk⟩
    · simp only [rsC, rs2, rs1, rs0, hm]
    · simp only [rsC, rs2, rs1, rs0, hm, and_self]
  · refine CallW.sc (p75 n N.names g hg hn) ?_ ?_ fun r hr => ⟨by subst hr; rfl, by subst hr; exact hk⟩
    · simp only [rsC, rs2, rs1, rs0, hm]
    · simp only [rsC, rs2, rs1, rs0, hm, and_self]

theorem p24 {N : Net} {cs : List AV} (hN : NetC cs N) (ok : N.Ok) : Pure PP 24 [.agg cs] fun r => r = .int .i64 (formF N) := by
  have pE := p76 hN ok
  have pF := p29 hN ok
  obtain ⟨f0, f1, f2, f3, f4, rfl, g0, g1, g2, g3, g4⟩ := hN
  have hni := ok.ni; have hnf := ok.nf; have hno := ok.no; have hng := ok.ng; have hnk := ok.nk
  refine Fn.pure fmix f24 ?_
  unfold a24 r24
  simp -implicitDefEqProofs only [vqa, Nat.reduceEqDiff, Nat.reduceAdd, reduceIte, Nat.reduceLeDiff, Nat.reduceBEq, Nat.reduceLT, Nat.reduceSub, Int.reduceLT, Int.reduceLE, Int.reduceEq, Int.reduceToNat, Nat.reduceMul, eq_self, implies_true, forall_const]
  have big : 128 < N.ni ∨ 128 < N.no ∨ 288 < N.nf ∨ 1200 < N.ng → (3 : Int) = formF N := fun h => by unfold formF; rw [if_pos h]
  refine ⟨fun b1 => ⟨fun b2 => ⟨fun b3 => ⟨fun b4 => big (by omega), fun b4 => ⟨fun b5 => ?_, fun b5 => ?_⟩⟩, fun b3 => big (by omega)⟩, fun b2 => big (by omega)⟩, fun b1 => big (by omega)⟩
  · unfold formF; rw [if_neg (by omega), if_pos (by omega)]
  have s1 : formF N = if namesF N.names (N.ni + N.nf) ≠ 0 then namesF N.names (N.ni + N.nf)
      else if namesF N.out N.no ≠ 0 then namesF N.out N.no
      else if scan (gateAt N) N.ng ≠ 0 then scan (gateAt N) N.ng
      else if scan (flopAt N) N.nf ≠ 0 then 2
      else scan (fun i => badNet N.nets (N.outs i)) N.nk := by unfold formF; rw [if_neg (by omega), if_neg (by omega)]
  refine (CallW.own0 (K := fun v m => Gath N N.ni v m ∧ m 1 = .var ((mem0 1).ver + 1) [.fs N.ni f0, .fs N.no f1, .fs N.nf f2, .fs N.ng f3, .fs N.nk f4]) 44 (p74 N.ni N.inn f0 g0 hni) rfl rfl (fun h => ⟨.inl ⟨h, rfl⟩, rfl⟩) (fun e sz n g ⟨h1, h2, h3, h5⟩ => ?_)).mono fun v m hGm => ?_
  · subst h1; subst h2; subst h3
    refine And.intro (Or.inr (Or.inl ⟨_, g, rfl, set_same _ _ _, fun j hj => ?_⟩)) rfl
    have hj' : j < N.ni := hj
    show g j = .str (N.names j)
    rw [h5 j hj']; unfold Net.names; rw [if_pos hj']
  obtain ⟨hG, hm1⟩ := hGm
  simp -implicitDefEqProofs only [vqa, Nat.reduceEqDiff, Nat.reduceAdd, reduceIte, Nat.reduceLeDiff, Nat.reduceBEq, Nat.reduceLT, Nat.reduceSub, Int.reduceLT, Int.reduceLE, Int.reduceEq, Int.reduceToNat, Nat.reduceMul, eq_self, implies_true, forall_const, hm1]
  refine vFor N.nf (fun i e m => e 1 = .ptr 1 ((mem0 1).ver + 1) 0 ∧ e 46 = .fs N.nf f2 ∧ e 47 = .int .i64 N.nf ∧ e 48 = .int .i64 i ∧ m 1 = .var ((mem0 1).ver + 1) [.fs N.ni f0, .fs N.no f1, .fs N.nf f2, .fs N.ng f3, .fs N.nk f4] ∧ Gath N (N.ni + i) (e 3) m) ?_ ?_ ?_
  · simp -implicitDefEqProofs only [vqa, Nat.reduceEqDiff, Nat.reduceAdd, reduceIte, Nat.reduceLeDiff, Nat.reduceBEq, Nat.reduceLT, Nat.reduceSub, Int.reduceLT, Int.reduceLE, Int.reduceEq, Int.reduceToNat, Nat.reduceMul, eq_self, implies_true, forall_const, hm1]
    exact hG
  · rintro i e m hi hi' ⟨h1, h46, h47, h48, hm, hG⟩
    have hnm : N.names (N.ni + i) = (N.flop i).name := by unfold Net.names; rw [if_neg (by omega)]; congr 2; omega
    unfold a24_0
    rcases hG with ⟨hz, h3⟩ | ⟨ver, g, h3, hm3, hg⟩ | ⟨ver, g, h3, hm3, hg⟩
    · simp -implicitDefEqProofs only [vqa, Nat.reduceEqDiff, Nat.reduceAdd, reduceIte, Nat.reduceLeDiff, Nat.reduceBEq, Nat.reduceLT, Nat.reduceSub, Int.reduceLT, Int.reduceLE, Int.reduceEq, Int.reduceToNat, Nat.reduceMul, eq_self, implies_true, forall_const, h1, h46, h47, h48, hm, h3, hi', g2 i hi, FlopV.av]
      have h0 : N.ni + (i + 1) = 1 := by omega
      rw [h0]
      refine ⟨by omega, hi, wI (by omega) (by omega), .inr (.inr ⟨_, _, rfl, set_same _ _ _, fun j hj => ?_⟩)⟩
      obtain rfl : j = 0 := by omega
      have : N.names 0 = (N.flop i).name := by rw [← hnm]; congr 1; exact hz.symm
      rw [this]; rfl
    · simp -implicitDefEqProofs only [vqa, Nat.reduceEqDiff, Nat.reduceAdd, reduceIte, Nat.reduceLeDiff, Nat.reduceBEq, Nat.reduceLT, Nat.reduceSub, Int.reduceLT, Int.reduceLE, Int.reduceEq, Int.reduceToNat, Nat.reduceMul, eq_self, implies_true, forall_const, h1, h46, h47, h48, hm, h3, hm3, hi', g2 i hi, FlopV.av]
      exact ⟨by omega, ⟨by omega, by omega⟩, hi, wI (by omega) (by omega), .inr (.inl ⟨_, _, rfl, set_same _ _ _, gath_row hg hnm⟩)⟩
    · simp -implicitDefEqProofs only [vqa, Nat.reduceEqDiff, Nat.reduceAdd, reduceIte, Nat.reduceLeDiff, Nat.reduceBEq, Nat.reduceLT, Nat.reduceSub, Int.reduceLT, Int.reduceLE, Int.reduceEq, Int.reduceToNat, Nat.reduceMul, eq_self, implies_true, forall_const, h1, h46, h47, h48, hm, h3, hm3, hi', g2 i hi, FlopV.av]
      exact ⟨by omega, ⟨by omega, by omega⟩, hi, wI (by omega) (by omega), .inr (.inr ⟨_, _, rfl, set_same _ _ _, gath_row hg hnm⟩)⟩
  · rintro e m ⟨h1, h46, h47, h48, hm, hG⟩
    unfold a24_0
    simp -implicitDefEqProofs only [vqa, Nat.reduceEqDiff, Nat.reduceAdd, reduceIte, Nat.reduceLeDiff, Nat.reduceBEq, Nat.reduceLT, Nat.reduceSub, Int.reduceLT, Int.reduceLE, Int.reduceEq, Int.reduceToNat, Nat.reduceMul, eq_self, implies_true, forall_const, h1, h46, h47, h48, hm]
    refine hG.call (by omega) ?_
    simp -implicitDefEqProofs only [vqa, Nat.reduceEqDiff, Nat.reduceAdd, reduceIte, Nat.reduceLeDiff, Nat.reduceBEq, Nat.reduceLT, Nat.reduceSub, Int.reduceLT, Int.reduceLE, Int.reduceEq, Int.reduceToNat, Nat.reduceMul, eq_self, implies_true, forall_const, h1, h46, h47, h48, hm]
    rw [s1]
    refine ⟨fun e1 => by rw [if_pos e1], fun e1 => ?_⟩
    rw [if_neg e1]
    refine CallW.sc (p75 N.no N.out f1 g1 hno) rfl ⟨trivial, trivial⟩ fun r hr => ⟨by subst hr; rfl, ?_⟩
    subst hr
    simp -implicitDefEqProofs only [vqa, Nat.reduceEqDiff, Nat.reduceAdd, reduceIte, Nat.reduceLeDiff, Nat.reduceBEq, Nat.reduceLT, Nat.reduceSub, Int.reduceLT, Int.reduceLE, Int.reduceEq, Int.reduceToNat, Nat.reduceMul, eq_self, implies_true, forall_const, h1, h46, h47, h48, hm]
    refine ⟨fun e2 => by rw [if_pos e2], fun e2 => ?_⟩
    rw [if_neg e2]
    refine CallW.sc pF rfl ?_ fun r hr => ⟨by subst hr; rfl, ?_⟩
    · simp only [rsC, rs2, rs1, rs0, vqa, Nat.reduceEqDiff, Nat.reduceAdd, reduceIte, Nat.reduceLeDiff, Nat.reduceBEq, Nat.reduceLT, Nat.reduceSub, Int.reduceLT, Int.reduceLE, Int.reduceEq, Int.reduceToNat, Nat.reduceMul, eq_self, implies_true, forall_const]
    subst hr
    simp -implicitDefEqProofs only [vqa, Nat.reduceEqDiff, Nat.reduceAdd, reduceIte, Nat.reduceLeDiff, Nat.reduceBEq, Nat.reduceLT, Nat.reduceSub, Int.reduceLT, Int.reduceLE, Int.reduceEq, Int.reduceToNat, Nat.reduceMul, eq_self, implies_true, forall_const, h1, h46, h47, h48, hm]
    refine vFor N.ng (fun i e m => e 1 = .ptr 1 ((mem0 1).ver + 1) 0 ∧ e 8 = .int .i64 (N.first : Nat) ∧ e 72 = .fs N.ng f3 ∧ e 73 = .int .i64 N.ng ∧ e 74 = .int .i64 i ∧ m 1 = .var ((mem0 1).ver + 1) [.fs N.ni f0, .fs N.no f1, .fs N.nf f2, .fs N.ng f3, .fs N.nk f4] ∧ scan (gateAt N) i = 0) ?_ ?_ ?_
    · simp -implicitDefEqProofs only [vqa, Nat.reduceEqDiff, Nat.reduceAdd, reduceIte, Nat.reduceLeDiff, Nat.reduceBEq, Nat.reduceLT, Nat.reduceSub, Int.reduceLT, Int.reduceLE, Int.reduceEq, Int.reduceToNat, Nat.reduceMul, eq_self, implies_true, forall_const, h1, hm]
      rfl
    · rintro i e m hi hi' ⟨h1, h8, h72, h73, h74, hm, hs⟩
      obtain ⟨q, hq, hqi⟩ := g3 i hi
      obtain ⟨gn, gc, gt, gi⟩ := ok.gate i hi
      have hend : ∀ c, gateAt N i = c → c ≠ 0 → c = if scan (gateAt N) N.ng ≠ 0 then scan (gateAt N) N.ng else if scan (flopAt N) N.nf ≠ 0 then 2 else scan (fun i => badNet N.nets (N.outs i)) N.nk := fun c h1 h2 => by
        have := scan_stop hs h1 h2 _ hi
        rw [this, if_pos h2]
      unfold a24_1
      simp -implicitDefEqProofs only [vqa, Nat.reduceEqDiff, Nat.reduceAdd, reduceIte, Nat.reduceLeDiff, Nat.reduceBEq, Nat.reduceLT, Nat.reduceSub, Int.reduceLT, Int.reduceLE, Int.reduceEq, Int.reduceToNat, Nat.reduceMul, eq_self, implies_true, forall_const, h1, h8, h72, h73, h74, hm, hi', hq]
      refine ⟨by omega, fun k1 => hend 3 (by unfold gateAt; rw [if_pos (by omega)]) (by decide), fun k1 => ?_⟩
      refine vAny [0, 1, 2, 3, 4, 5, 6, 7] 8 allL rfl rfl ?_
      simp -implicitDefEqProofs only [vqa, Nat.reduceEqDiff, Nat.reduceAdd, reduceIte, Nat.reduceLeDiff, Nat.reduceBEq, Nat.reduceLT, Nat.reduceSub, Int.reduceLT, Int.reduceLE, Int.reduceEq, Int.reduceToNat, Nat.reduceMul, eq_self, implies_true, forall_const, h1, h8, h72, h73, h74, hm]
      refine CallW.sc (p22 _) rfl ⟨trivial, trivial⟩ fun r hr => ⟨by subst hr; rfl, ?_⟩
      subst hr
      simp -implicitDefEqProofs only [vqa, Nat.reduceEqDiff, Nat.reduceAdd, reduceIte, Nat.reduceLeDiff, Nat.reduceBEq, Nat.reduceLT, Nat.reduceSub, Int.reduceLT, Int.reduceLE, Int.reduceEq, Int.reduceToNat, Nat.reduceMul, eq_self, implies_true, forall_const, h1, h8, h72, h73, h74, hm]
      refine ⟨fun k2 => hend 4 (by unfold gateAt; rw [if_neg (by omega), if_pos k2]) (by decide), fun k2 => ?_⟩
      have gs : gateAt N i = scan (fun k => badNet (N.first + i : Nat) ((N.gate i).ins k)) (N.gate i).n := by unfold gateAt; rw [if_neg (by omega), if_neg (by simpa using k2)]
      have hfi : N.first + i ≤ 4194304 := by unfold Net.first; omega
      refine vFor (N.gate i).n (fun k e m => e 1 = .ptr 1 ((mem0 1).ver + 1) 0 ∧ e 8 = .int .i64 (N.first : Nat) ∧ e 72 = .fs N.ng f3 ∧ e 73 = .int .i64 N.ng ∧ e 74 = .int .i64 i ∧ m 1 = .var ((mem0 1).ver + 1) [.fs N.ni f0, .fs N.no f1, .fs N.nf f2, .fs N.ng f3, .fs N.nk f4] ∧ e 9 = .int .i64 i ∧ e 92 = .fs (N.gate i).n q ∧ e 93 = .int .i64 (N.gate i).n ∧ e 94 = .int .i64 k ∧ scan (fun k => badNet (N.first + i : Nat) ((N.gate i).ins k)) k = 0) ?_ ?_ ?_
      · simp -implicitDefEqProofs only [vqa, Nat.reduceEqDiff, Nat.reduceAdd, reduceIte, Nat.reduceLeDiff, Nat.reduceBEq, Nat.reduceLT, Nat.reduceSub, Int.reduceLT, Int.reduceLE, Int.reduceEq, Int.reduceToNat, Nat.reduceMul, eq_self, implies_true, forall_const, h1, h8, h72, h73, h74, hm]
        rfl
      · rintro k e m hk hk' ⟨h1, h8, h72, h73, h74, hm, h9, h92, h93, h94, hss⟩
        unfold a24_2
        simp -implicitDefEqProofs only [vqa, Nat.reduceEqDiff, Nat.reduceAdd, reduceIte, Nat.reduceLeDiff, Nat.reduceBEq, Nat.reduceLT, Nat.reduceSub, Int.reduceLT, Int.reduceLE, Int.reduceEq, Int.reduceToNat, Nat.reduceMul, eq_self, implies_true, forall_const, h1, h8, h72, h73, h74, hm, h9, h92, h93, h94, hk', hqi k hk]
        have hb : ∀ c, badNet (N.first + i : Nat) ((N.gate i).ins k) = c → c ≠ 0 → c = if scan (gateAt N) N.ng ≠ 0 then scan (gateAt N) N.ng else if scan (flopAt N) N.nf ≠ 0 then 2 else scan (fun i => badNet N.nets (N.outs i)) N.nk := fun c h1 h2 => hend c (by rw [gs]; exact scan_stop hss h1 h2 _ hk) h2
        rw [wI (n := (N.first : Int) + i) (by omega) (by omega)]
        refine ⟨by omega, fun d1 => ⟨fun d2 => hb 2 (by unfold badNet; rw [if_pos (by omega)]) (by decide), fun d2 => ⟨hk, wI (by omega) (by omega), scan_step hss (by unfold badNet; rw [if_neg (by omega)])⟩⟩, fun d1 => hb 2 (by unfold badNet; rw [if_pos (by omega)]) (by decide)⟩
      · rintro e m ⟨h1, h8, h72, h73, h74, hm, h9, h92, h93, h94, hss⟩
        unfold a24_2
        simp -implicitDefEqProofs only [vqa, Nat.reduceEqDiff, Nat.reduceAdd, reduceIte, Nat.reduceLeDiff, Nat.reduceBEq, Nat.reduceLT, Nat.reduceSub, Int.reduceLT, Int.reduceLE, Int.reduceEq, Int.reduceToNat, Nat.reduceMul, eq_self, implies_true, forall_const, h1, h8, h72, h73, h74, hm, h9, h92, h93, h94]
        exact ⟨hi, wI (by omega) (by omega), scan_step hs (by rw [gs]; exact hss)⟩
    · rintro e m ⟨h1, h8, h72, h73, h74, hm, hs⟩
      unfold a24_1
      simp -implicitDefEqProofs only [vqa, Nat.reduceEqDiff, Nat.reduceAdd, reduceIte, Nat.reduceLeDiff, Nat.reduceBEq, Nat.reduceLT, Nat.reduceSub, Int.reduceLT, Int.reduceLE, Int.reduceEq, Int.reduceToNat, Nat.reduceMul, eq_self, implies_true, forall_const, h1, h8, h72, h73, h74, hm]
      refine CallW.sc pE rfl ?_ fun r hr => ⟨by subst hr; rfl, ?_⟩
      · simp only [rsC, rs2, rs1, rs0, vqa, Nat.reduceEqDiff, Nat.reduceAdd, reduceIte, Nat.reduceLeDiff, Nat.reduceBEq, Nat.reduceLT, Nat.reduceSub, Int.reduceLT, Int.reduceLE, Int.reduceEq, Int.reduceToNat, Nat.reduceMul, eq_self, implies_true, forall_const]
      subst hr
      simp -implicitDefEqProofs only [vqa, Nat.reduceEqDiff, Nat.reduceAdd, reduceIte, Nat.reduceLeDiff, Nat.reduceBEq, Nat.reduceLT, Nat.reduceSub, Int.reduceLT, Int.reduceLE, Int.reduceEq, Int.reduceToNat, Nat.reduceMul, eq_self, implies_true, forall_const, hs, ne_eq, not_true, if_false]
end Go.Ab
namespace Go.Ab
open Go
def a34_0 : AC := (.seq (.ops [⟨(some 14), none, (.v (.bin .lss (.t 13) (.t 12)))⟩]) (.seq (.cond (.t 14) .skip (.exit 0)) (.seq (.block 1 (.seq (.ops [⟨(some 15), none, (.v (.mv (.t 13)))⟩, ⟨(some 5), none, (.v (.mv (.t 15)))⟩]) (.seq (.any [⟨(some 16), none, (.v (.mv (.t 0)))⟩, ⟨(some 17), none, (.v (.mv (.t 5)))⟩, ⟨(some 18), none, (.v (.idx 1 (.t 16) (.t 17)))⟩, ⟨(some 19), none, (.v (.load 1 false (.t 18)))⟩, ⟨(some 20), none, (.v (.mv (.t 1)))⟩, ⟨(some 21), none, (.v (.mv (.t 5)))⟩, ⟨(some 22), none, (.v (.idx 1 (.t 20) (.t 21)))⟩, ⟨(some 23), none, (.v (.load 1 false (.t 22)))⟩, ⟨(some 24), none, (.v (.bin .neq (.t 19) (.t 23)))⟩] [[], [], [0, 1], [2], [], [], [4, 5], [6], [3, 7]]) (.cond (.t 24) (.seq (.ops [⟨(some 4), none, (.v (.mv (.c (.bool false))))⟩]) .ret) .skip)))) (.ops [⟨(some 25), none, (.v (.bin .add (.t 13) (.c (.int .i64 1))))⟩, ⟨(some 13), none, (.v (.mv (.t 25)))⟩]))))
def a34 : AC := (.seq (.ops [⟨(some 4), none, (.v (.mv (.c (.bool false))))⟩]) (.seq (.seq (.ops [⟨(some 6), none, (.v (.mv (.t 0)))⟩, ⟨(some 7), none, (.v (.len (.t 6)))⟩, ⟨(some 8), none, (.v (.mv (.t 1)))⟩, ⟨(some 9), none, (.v (.len (.t 8)))⟩, ⟨(some 10), none, (.v (.bin .neq (.t 7) (.t 9)))⟩]) (.cond (.t 10) (.seq (.ops [⟨(some 4), none, (.v (.mv (.c (.bool false))))⟩]) .ret) .skip)) (.seq (.seq (.ops [⟨(some 11), none, (.v (.mv (.t 0)))⟩, ⟨(some 12), none, (.v (.len (.t 11)))⟩, ⟨(some 13), none, (.v (.mv (.c (.int .i64 0))))⟩]) (.block 0 (.loop a34_0))) (.seq (.ops [⟨(some 4), none, (.v (.mv (.c (.bool true))))⟩]) .ret))))
def r34 : List AI := [(.mv (.t 4))]
theorem f34 : Fn PP 34 2 a34 r34 := Fn.of (fn := Go.Proofs.Try.f34) (by kernel_rfl) (by kernel_rfl) (by kernel_rfl)
theorem p34 (n m : Nat) (x y : Nat → Int) (f g : Nat → AV) (hf : ∀ i, i < n → f i = .int .i64 (x i)) (hg : ∀ i, i < m → g i = .int .i64 (y i)) (hn : n ≤ 1048576) (hm : m ≤ 1048576) :
    Pure PP 34 [.fs n f, .fs m g] fun r => ∃ b, r = .bool b ∧ (b = true ↔ n = m ∧ ∀ i, i < n → x i = y i) := by
  refine Fn.pure fmix f34 ?_
  unfold a34 r34
  simp -implicitDefEqProofs only [vqa, Nat.reduceEqDiff, Nat.reduceAdd, reduceIte, Nat.reduceLeDiff, Nat.reduceBEq, Nat.reduceLT, Nat.reduceSub, Int.reduceLT, Int.reduceLE, Int.reduceEq, Int.reduceToNat, Nat.reduceMul, eq_self, implies_true, forall_const]
  refine ⟨fun h => ⟨_, rfl, ⟨fun e => Bool.noConfusion e, fun e => absurd (congrArg Nat.cast e.1) h⟩⟩, fun h => ?_⟩
  obtain rfl : n = m := by omega
  refine vFor n (fun i e mm => e 0 = .fs n f ∧ e 1 = .fs n g ∧ e 12 = .int .i64 n ∧ e 13 = .int .i64 i ∧ ∀ j, j < i → x j = y j) ?_ ?_ ?_
  · simp -implicitDefEqProofs only [vqa, Nat.reduceEqDiff, Nat.reduceAdd, reduceIte, Nat.reduceLeDiff, Nat.reduceBEq, Nat.reduceLT, Nat.reduceSub, Int.reduceLT, Int.reduceLE, Int.reduceEq, Int.reduceToNat, Nat.reduceMul, eq_self, implies_true, forall_const]
  · rintro i e mm hi hi' ⟨h0, h1, h12, h13, hs⟩
    unfold a34_0
    simp -implicitDefEqProofs only [vqa, Nat.reduceEqDiff, Nat.reduceAdd, reduceIte, Nat.reduceLeDiff, Nat.reduceBEq, Nat.reduceLT, Nat.reduceSub, Int.reduceLT, Int.reduceLE, Int.reduceEq, Int.reduceToNat, Nat.reduceMul, eq_self, implies_true, forall_const, h0, h1, h12, h13, hi']
    refine vAny [0, 1, 2, 3, 4, 5, 6, 7, 8] 9 allL rfl rfl ?_
    simp -implicitDefEqProofs only [vqa, Nat.reduceEqDiff, Nat.reduceAdd, reduceIte, Nat.reduceLeDiff, Nat.reduceBEq, Nat.reduceLT, Nat.reduceSub, Int.reduceLT, Int.reduceLE, Int.reduceEq, Int.reduceToNat, Nat.reduceMul, eq_self, implies_true, forall_const, h0, h1, h12, h13, hf i hi, hg i hi]
    refine ⟨by omega, by omega, fun k => ⟨_, rfl, ⟨fun e => Bool.noConfusion e, fun e => absurd (e i hi) k⟩⟩, fun k => ⟨hi, wI (by omega) (by omega), fun j hj => ?_⟩⟩
    by_cases e : j = i
    · subst e; exact Classical.not_not.1 k
    · exact hs j (by omega)
  · rintro e mm ⟨h0, h1, h12, h13, hs⟩
    unfold a34_0
    simp -implicitDefEqProofs only [vqa, Nat.reduceEqDiff, Nat.reduceAdd, reduceIte, Nat.reduceLeDiff, Nat.reduceBEq, Nat.reduceLT, Nat.reduceSub, Int.reduceLT, Int.reduceLE, Int.reduceEq, Int.reduceToNat, Nat.reduceMul, eq_self, implies_true, forall_const, h0, h1, h12, h13]
    exact ⟨_, rfl, ⟨fun _ => hs, fun _ => rfl⟩⟩
end Go.Ab
