/- Walks: names. -/
import Derived.Test.YtiecnmojbdogfaaSaBase
import Derived.Test.YtiecnmojbdogfaaLwBit
set_option linter.unusedSimpArgs false
set_option linter.unusedVariables false
namespace Go.Ab
open Go
def a69_0 : AC := (.seq (.ops [⟨(some 17), none, (.v (.bin .lss (.t 16) (.t 15)))⟩]) (.seq (.cond (.t 17) .skip (.exit 0)) (.seq (.block 1 (.seq (.ops [⟨(some 18), none, (.v (.idx 1 (.t 14) (.t 16)))⟩, ⟨(some 19), none, (.v (.load 1 false (.t 18)))⟩, ⟨(some 4), none, (.v (.mv (.t 19)))⟩]) (.seq (.ops [⟨(some 20), none, (.v (.mv (.t 4)))⟩, ⟨(some 21), none, (.v (.bin .lss (.t 20) (.c (.int .u8 33))))⟩, ⟨(some 22), none, (.v (.mv (.t 21)))⟩, ⟨(some 23), (some (22, false)), (.v (.mv (.t 4)))⟩, ⟨(some 24), (some (22, false)), (.v (.bin .gtr (.t 23) (.c (.int .u8 126))))⟩, ⟨(some 25), none, (.v (.pick (.t 22) (.c (.bool true)) (.t 24)))⟩]) (.cond (.t 25) (.seq (.ops [⟨(some 2), none, (.v (.mv (.c (.bool false))))⟩]) .ret) .skip)))) (.ops [⟨(some 26), none, (.v (.bin .add (.t 16) (.c (.int .i64 1))))⟩, ⟨(some 16), none, (.v (.mv (.t 26)))⟩]))))
def a69 : AC := (.seq (.ops [⟨(some 2), none, (.v (.mv (.c (.bool false))))⟩]) (.seq (.seq (.ops [⟨(some 5), none, (.v (.mv (.t 0)))⟩, ⟨(some 6), none, (.v (.slen (.t 5)))⟩, ⟨(some 7), none, (.v (.bin .lss (.t 6) (.c (.int .i64 1))))⟩, ⟨(some 8), none, (.v (.mv (.t 7)))⟩, ⟨(some 9), (some (8, false)), (.v (.mv (.t 0)))⟩, ⟨(some 10), (some (8, false)), (.v (.slen (.t 9)))⟩, ⟨(some 11), (some (8, false)), (.v (.bin .gtr (.t 10) (.c (.int .i64 128))))⟩, ⟨(some 12), none, (.v (.pick (.t 8) (.c (.bool true)) (.t 11)))⟩]) (.cond (.t 12) (.seq (.ops [⟨(some 2), none, (.v (.mv (.c (.bool false))))⟩]) .ret) .skip)) (.seq (.seq (.ops [⟨(some 13), none, (.v (.mv (.t 0)))⟩, ⟨(some 14), none, (.e (.strb (.t 13)))⟩, ⟨(some 15), none, (.v (.len (.t 14)))⟩, ⟨(some 16), none, (.v (.mv (.c (.int .i64 0))))⟩]) (.block 0 (.loop a69_0))) (.seq (.ops [⟨(some 2), none, (.v (.mv (.c (.bool true))))⟩]) .ret))))
def r69 : List AI := [(.mv (.t 2))]
theorem f69 : Fn PP 69 1 a69 r69 := Fn.of (fn := Go.Proofs.Try.f69) (by kernel_rfl) (by kernel_rfl) (by kernel_rfl)
def a63_0 : AC := (.seq (.ops [⟨(some 7), none, (.v (.bin .lss (.t 6) (.t 5)))⟩]) (.seq (.cond (.t 7) .skip (.exit 0)) (.seq (.block 1 (.seq (.ops [⟨(some 8), none, (.v (.mv (.t 6)))⟩, ⟨(some 3), none, (.v (.mv (.t 8)))⟩]) (.seq (.ops [⟨(some 9), none, (.v (.mv (.t 0)))⟩, ⟨(some 10), none, (.v (.mv (.t 3)))⟩, ⟨(some 11), none, (.v (.sidx (.t 9) (.t 10)))⟩, ⟨(some 12), none, (.v (.bin .leq (.t 11) (.c (.int .u8 32))))⟩, ⟨(some 13), none, (.v (.mv (.t 12)))⟩, ⟨(some 14), (some (13, false)), (.v (.mv (.t 0)))⟩, ⟨(some 15), (some (13, false)), (.v (.mv (.t 3)))⟩, ⟨(some 16), (some (13, false)), (.v (.sidx (.t 14) (.t 15)))⟩, ⟨(some 17), (some (13, false)), (.v (.bin .gtr (.t 16) (.c (.int .u8 126))))⟩, ⟨(some 18), none, (.v (.pick (.t 13) (.c (.bool true)) (.t 17)))⟩]) (.cond (.t 18) (.seq (.ops [⟨(some 2), none, (.v (.mv (.c (.bool false))))⟩]) .ret) .skip)))) (.ops [⟨(some 19), none, (.v (.bin .add (.t 6) (.c (.int .i64 1))))⟩, ⟨(some 6), none, (.v (.mv (.t 19)))⟩]))))
def a63 : AC := (.seq (.ops [⟨(some 2), none, (.v (.mv (.c (.bool false))))⟩]) (.seq (.seq (.ops [⟨(some 4), none, (.v (.mv (.t 0)))⟩, ⟨(some 5), none, (.v (.slen (.t 4)))⟩, ⟨(some 6), none, (.v (.mv (.c (.int .i64 0))))⟩]) (.block 0 (.loop a63_0))) (.seq (.ops [⟨(some 20), none, (.v (.mv (.t 0)))⟩, ⟨(some 21), none, (.v (.sbin .neq (.t 20) (.c (.str ⟨#[]⟩))))⟩, ⟨(some 22), none, (.v (.mv (.t 21)))⟩, ⟨(some 23), (some (22, true)), (.v (.mv (.t 0)))⟩, ⟨(some 24), (some (22, true)), (.v (.slen (.t 23)))⟩, ⟨(some 25), (some (22, true)), (.v (.bin .leq (.t 24) (.c (.int .i64 128))))⟩, ⟨(some 26), none, (.v (.pick (.t 22) (.t 25) (.c (.bool false))))⟩, ⟨(some 2), none, (.v (.mv (.t 26)))⟩]) .ret)))
def r63 : List AI := [(.mv (.t 2))]
theorem f63 : Fn PP 63 1 a63 r63 := Fn.of (fn := Go.Proofs.Try.f63) (by kernel_rfl) (by kernel_rfl) (by kernel_rfl)
def a57_0 : AC := (.seq (.ops [⟨(some 10), none, (.v (.bin .lss (.t 9) (.t 8)))⟩]) (.seq (.cond (.t 10) .skip (.exit 0)) (.seq (.block 1 (.seq (.ops [⟨(some 11), none, (.v (.idx 1 (.t 7) (.t 9)))⟩, ⟨(some 12), none, (.v (.load 1 false (.t 11)))⟩, ⟨(some 5), none, (.v (.mv (.t 12)))⟩]) (.seq (.seq (.ops [⟨(some 13), none, (.v (.mv (.t 5)))⟩, ⟨(some 14), none, (.call (.c (.fn 69 [])) [(.t 13)])⟩, ⟨(some 15), none, (.v (.not (.t 14)))⟩]) (.cond (.t 15) (.seq (.ops [⟨(some 2), none, (.v (.mv (.c (.int .i64 9))))⟩]) .ret) .skip)) (.seq (.ops [⟨(some 16), none, (.v (.mv (.t 3)))⟩, ⟨(some 17), none, (.v (.mv (.t 5)))⟩, ⟨(some 18), none, (.v (.lku false .str (some .i64) (.t 16) (.t 17)))⟩, ⟨(some 19), none, (.v (.bin .add (.t 18) (.c (.int .i64 1))))⟩, ⟨none, none, (.e (.mapup .str (some .i64) (.t 16) (.t 17) (.t 19)))⟩]) (.seq (.ops [⟨(some 20), none, (.v (.mv (.t 3)))⟩, ⟨(some 21), none, (.v (.mv (.t 5)))⟩, ⟨(some 22), none, (.v (.lku false .str (some .i64) (.t 20) (.t 21)))⟩, ⟨(some 23), none, (.v (.bin .gtr (.t 22) (.c (.int .i64 1))))⟩]) (.cond (.t 23) (.seq (.ops [⟨(some 2), none, (.v (.mv (.c (.int .i64 6))))⟩]) .ret) .skip)))))) (.ops [⟨(some 24), none, (.v (.bin .add (.t 9) (.c (.int .i64 1))))⟩, ⟨(some 9), none, (.v (.mv (.t 24)))⟩]))))
def a57 : AC := (.seq (.ops [⟨(some 2), none, (.v (.mv (.c (.int .i64 0))))⟩]) (.seq (.ops [⟨(some 6), none, (.e (.mkmap 6 .str (some .i64)))⟩, ⟨(some 3), none, (.v (.mv (.t 6)))⟩]) (.seq (.seq (.ops [⟨(some 7), none, (.v (.mv (.t 0)))⟩, ⟨(some 8), none, (.v (.len (.t 7)))⟩, ⟨(some 9), none, (.v (.mv (.c (.int .i64 0))))⟩]) (.block 0 (.loop a57_0))) (.seq (.ops [⟨(some 2), none, (.v (.mv (.c (.int .i64 0))))⟩]) .ret))))
def r57 : List AI := [(.mv (.t 2))]
theorem f57 : Fn PP 57 1 a57 r57 := Fn.of (fn := Go.Proofs.Try.f57) (by kernel_rfl) (by kernel_rfl) (by kernel_rfl)
def a44_0 : AC := (.seq (.ops [⟨(some 8), none, (.v (.bin .lss (.t 7) (.t 6)))⟩]) (.seq (.cond (.t 8) .skip (.exit 0)) (.seq (.block 1 (.seq (.ops [⟨(some 9), none, (.v (.mv (.t 7)))⟩, ⟨(some 10), none, (.v (.idx 1 (.t 5) (.t 7)))⟩, ⟨(some 11), none, (.v (.load 1 false (.t 10)))⟩, ⟨(some 3), none, (.v (.mv (.t 9)))⟩, ⟨(some 4), none, (.v (.mv (.t 11)))⟩]) (.seq (.seq (.ops [⟨(some 12), none, (.v (.mv (.t 4)))⟩, ⟨(some 13), none, (.call (.c (.fn 63 [])) [(.t 12)])⟩, ⟨(some 14), none, (.v (.not (.t 13)))⟩]) (.cond (.t 14) (.seq (.ops [⟨(some 2), none, (.v (.mv (.c (.int .i64 9))))⟩]) .ret) .skip)) (.seq (.ops [⟨(some 15), none, (.v (.mv (.t 0)))⟩, ⟨(some 16), none, (.v (.mv (.t 3)))⟩, ⟨(some 17), none, (.v (.slc 1 (.t 15) none (some (.t 16))))⟩, ⟨(some 18), none, (.v (.mv (.t 4)))⟩, ⟨(some 19), none, (.call (.c (.fn 64 [])) [(.t 17), (.t 18)])⟩]) (.cond (.t 19) (.seq (.ops [⟨(some 2), none, (.v (.mv (.c (.int .i64 6))))⟩]) .ret) .skip))))) (.ops [⟨(some 20), none, (.v (.bin .add (.t 7) (.c (.int .i64 1))))⟩, ⟨(some 7), none, (.v (.mv (.t 20)))⟩]))))
def a44 : AC := (.seq (.ops [⟨(some 2), none, (.v (.mv (.c (.int .i64 0))))⟩]) (.seq (.seq (.ops [⟨(some 5), none, (.v (.mv (.t 0)))⟩, ⟨(some 6), none, (.v (.len (.t 5)))⟩, ⟨(some 7), none, (.v (.mv (.c (.int .i64 0))))⟩]) (.block 0 (.loop a44_0))) (.seq (.ops [⟨(some 2), none, (.v (.mv (.c (.int .i64 0))))⟩]) .ret)))
def r44 : List AI := [(.mv (.t 2))]
theorem f44 : Fn PP 44 1 a44 r44 := Fn.of (fn := Go.Proofs.Try.f44) (by kernel_rfl) (by kernel_rfl) (by kernel_rfl)
def a72_0 : AC := (.seq (.ops [⟨(some 9), none, (.v (.bin .lss (.t 8) (.t 7)))⟩]) (.seq (.cond (.t 9) .skip (.exit 0)) (.seq (.block 1 (.seq (.ops [⟨(some 10), none, (.v (.mv (.t 8)))⟩, ⟨(some 5), none, (.v (.mv (.t 10)))⟩]) (.seq (.ops [⟨(some 11), none, (.v (.mv (.t 1)))⟩, ⟨(some 12), none, (.v (.mv (.t 0)))⟩, ⟨(some 13), none, (.v (.mv (.t 5)))⟩, ⟨(some 14), none, (.v (.idx 1 (.t 12) (.t 13)))⟩, ⟨(some 15), none, (.v (.load 1 false (.t 14)))⟩, ⟨(some 16), none, (.v (.sbin .eql (.t 11) (.t 15)))⟩]) (.cond (.t 16) (.seq (.ops [⟨(some 17), none, (.v (.mv (.t 5)))⟩, ⟨(some 4), none, (.v (.mv (.t 17)))⟩]) .ret) .skip)))) (.ops [⟨(some 18), none, (.v (.bin .add (.t 8) (.c (.int .i64 1))))⟩, ⟨(some 8), none, (.v (.mv (.t 18)))⟩]))))
def a72 : AC := (.seq (.ops [⟨(some 4), none, (.v (.mv (.c (.int .i64 0))))⟩]) (.seq (.seq (.ops [⟨(some 6), none, (.v (.mv (.t 0)))⟩, ⟨(some 7), none, (.v (.len (.t 6)))⟩, ⟨(some 8), none, (.v (.mv (.c (.int .i64 0))))⟩]) (.block 0 (.loop a72_0))) (.seq (.ops [⟨(some 4), none, (.v (.mv (.c (.int .i64 (-1)))))⟩]) .ret)))
def r72 : List AI := [(.mv (.t 4))]
theorem f72 : Fn PP 72 2 a72 r72 := Fn.of (fn := Go.Proofs.Try.f72) (by kernel_rfl) (by kernel_rfl) (by kernel_rfl)
def a64 : AC := (.seq (.ops [⟨(some 4), none, (.v (.mv (.c (.bool false))))⟩]) (.seq (.ops [⟨(some 5), none, (.v (.mv (.t 0)))⟩, ⟨(some 6), none, (.v (.mv (.t 1)))⟩, ⟨(some 7), none, (.call (.c (.fn 72 [])) [(.t 5), (.t 6)])⟩, ⟨(some 8), none, (.v (.bin .geq (.t 7) (.c (.int .i64 0))))⟩, ⟨(some 4), none, (.v (.mv (.t 8)))⟩]) .ret))
def r64 : List AI := [(.mv (.t 4))]
theorem f64 : Fn PP 64 2 a64 r64 := Fn.of (fn := Go.Proofs.Try.f64) (by kernel_rfl) (by kernel_rfl) (by kernel_rfl)
theorem p69 (s : ByteArray) : Pure PP 69 [.str s] fun r => r = .bool (decide (nameOk s)) := by
  refine Fn.pure fmix f69 ?_
  unfold a69 r69
  simp -implicitDefEqProofs only [vqa, Nat.reduceEqDiff, Nat.reduceAdd, reduceIte, Nat.reduceLeDiff, Nat.reduceBEq, Nat.reduceLT, Nat.reduceSub, Int.reduceLT, Int.reduceLE, Int.reduceEq, Int.reduceToNat, Nat.reduceMul, eq_self, implies_true, forall_const]
  have no : ¬ nameOk s → false = decide (nameOk s) := fun h => by simp [h]
  refine ⟨fun h1 => ⟨fun h2 => no fun h => ?_, fun h2 => ?_⟩, fun h1 => no fun h => ?_⟩
  · have := h.2.1; omega
  · refine vFor s.size (fun i e m => e 14 = .fs s.size (fun i => .int .u8 ((s.data.toList.getD i 0).toNat : Int)) ∧ e 15 = .int .i64 s.size ∧ e 16 = .int .i64 i ∧ ∀ j, j < i → byteOk (byteAt s j)) ?_ ?_ ?_
    · simp -implicitDefEqProofs only [vqa, Nat.reduceEqDiff, Nat.reduceAdd, reduceIte, Nat.reduceLeDiff, Nat.reduceBEq, Nat.reduceLT, Nat.reduceSub, Int.reduceLT, Int.reduceLE, Int.reduceEq, Int.reduceToNat, Nat.reduceMul, eq_self, implies_true, forall_const]
      try exact fun j hj => (Nat.not_lt_zero _ hj).elim
    · rintro i e m hi hi' ⟨h14, h15, h16, hb⟩
      unfold a69_0
      simp -implicitDefEqProofs only [vqa, Nat.reduceEqDiff, Nat.reduceAdd, reduceIte, Nat.reduceLeDiff, Nat.reduceBEq, Nat.reduceLT, Nat.reduceSub, Int.reduceLT, Int.reduceLE, Int.reduceEq, Int.reduceToNat, Nat.reduceMul, eq_self, implies_true, forall_const, h14, h15, h16, hi']
      have he : byteAt s i = ((s.data.toList.getD i 0).toNat : Int) := rfl
      refine ⟨by omega, fun h3 => ⟨fun h4 => no fun h => ?_, fun h4 => ⟨hi, wI (by omega) (by omega), fun j hj => ?_⟩⟩, fun h3 => no fun h => ?_⟩
      · have := (h.2.2 i hi).2; omega
      · by_cases e1 : j = i
        · subst e1; unfold byteOk; omega
        · exact hb j (by omega)
      · have := (h.2.2 i hi).1; omega
    · rintro e m ⟨h14, h15, h16, hb⟩
      unfold a69_0
      simp -implicitDefEqProofs only [vqa, Nat.reduceEqDiff, Nat.reduceAdd, reduceIte, Nat.reduceLeDiff, Nat.reduceBEq, Nat.reduceLT, Nat.reduceSub, Int.reduceLT, Int.reduceLE, Int.reduceEq, Int.reduceToNat, Nat.reduceMul, eq_self, implies_true, forall_const, h14, h15, h16]
      have : nameOk s := ⟨by omega, by omega, hb⟩
      simp [this]
  · have := h.1; omega

theorem p63 (s : ByteArray) (hs : s.size ≤ 1048576) : Pure PP 63 [.str s] fun r => r = .bool (decide (nameOk s)) := by
  refine Fn.pure fmix f63 ?_
  unfold a63 r63
  simp -implicitDefEqProofs only [vqa, Nat.reduceEqDiff, Nat.reduceAdd, reduceIte, Nat.reduceLeDiff, Nat.reduceBEq, Nat.reduceLT, Nat.reduceSub, Int.reduceLT, Int.reduceLE, Int.reduceEq, Int.reduceToNat, Nat.reduceMul, eq_self, implies_true, forall_const]
  have no : ¬ nameOk s → false = decide (nameOk s) := fun h => by simp [h]
  refine vFor s.size (fun i e m => e 0 = .str s ∧ e 5 = .int .i64 s.size ∧ e 6 = .int .i64 i ∧ ∀ j, j < i → byteOk (byteAt s j)) ?_ ?_ ?_
  · simp -implicitDefEqProofs only [vqa, Nat.reduceEqDiff, Nat.reduceAdd, reduceIte, Nat.reduceLeDiff, Nat.reduceBEq, Nat.reduceLT, Nat.reduceSub, Int.reduceLT, Int.reduceLE, Int.reduceEq, Int.reduceToNat, Nat.reduceMul, eq_self, implies_true, forall_const]
    try exact fun j hj => (Nat.not_lt_zero _ hj).elim
  · rintro i e m hi hi' ⟨h0, h5, h6, hb⟩
    unfold a63_0
    simp -implicitDefEqProofs only [vqa, Nat.reduceEqDiff, Nat.reduceAdd, reduceIte, Nat.reduceLeDiff, Nat.reduceBEq, Nat.reduceLT, Nat.reduceSub, Int.reduceLT, Int.reduceLE, Int.reduceEq, Int.reduceToNat, Nat.reduceMul, eq_self, implies_true, forall_const, h0, h5, h6, hi']
    have he : byteAt s i = ((s.data.toList.getD i 0).toNat : Int) := rfl
    refine ⟨by omega, fun h3 => ⟨by omega, fun h4 => no fun h => ?_, fun h4 => ⟨hi, wI (by omega) (by omega), fun j hj => ?_⟩⟩, fun h3 => no fun h => ?_⟩
    · have := (h.2.2 i hi).2; omega
    · by_cases e1 : j = i
      · subst e1; unfold byteOk; omega
      · exact hb j (by omega)
    · have := (h.2.2 i hi).1; omega
  · rintro e m ⟨h0, h5, h6, hb⟩
    unfold a63_0
    simp -implicitDefEqProofs only [vqa, Nat.reduceEqDiff, Nat.reduceAdd, reduceIte, Nat.reduceLeDiff, Nat.reduceBEq, Nat.reduceLT, Nat.reduceSub, Int.reduceLT, Int.reduceLE, Int.reduceEq, Int.reduceToNat, Nat.reduceMul, eq_self, implies_true, forall_const, h0, h5, h6]
    refine ⟨fun h1 => ?_, fun h1 => no fun h => ?_⟩
    · have h0 : s.size ≠ 0 := fun h0 => h1 (by
        have : s.data.size = 0 := h0
        obtain ⟨a⟩ := s
        simp at this
        rw [this])
      have : nameOk s ↔ (s.size : Int) ≤ 128 := ⟨fun h => by have := h.2.1; omega, fun h => ⟨by omega, by omega, hb⟩⟩
      simp [this]
    · have : s = ⟨#[]⟩ := Classical.not_not.1 h1
      have h2 := h.1
      rw [this] at h2
      exact absurd h2 (by decide)

theorem p72 (n : Nat) (x : Nat → ByteArray) (f : Nat → AV) (q : ByteArray) (hf : ∀ i, i < n → f i = .str (x i)) (hn : n ≤ 1048576) : Pure PP 72 [.fs n f, .str q] fun r => ∃ k : Int, r = .int .i64 k ∧ (0 ≤ k ↔ seenB x n q) := by
  refine Fn.pure fmix f72 ?_
  unfold a72 r72
  simp -implicitDefEqProofs only [vqa, Nat.reduceEqDiff, Nat.reduceAdd, reduceIte, Nat.reduceLeDiff, Nat.reduceBEq, Nat.reduceLT, Nat.reduceSub, Int.reduceLT, Int.reduceLE, Int.reduceEq, Int.reduceToNat, Nat.reduceMul, eq_self, implies_true, forall_const]
  refine vFor n (fun i e m => e 0 = .fs n f ∧ e 1 = .str q ∧ e 6 = .fs n f ∧ e 7 = .int .i64 n ∧ e 8 = .int .i64 i ∧ ¬ seenB x i q) ?_ ?_ ?_
  · simp -implicitDefEqProofs only [vqa, Nat.reduceEqDiff, Nat.reduceAdd, reduceIte, Nat.reduceLeDiff, Nat.reduceBEq, Nat.reduceLT, Nat.reduceSub, Int.reduceLT, Int.reduceLE, Int.reduceEq, Int.reduceToNat, Nat.reduceMul, eq_self, implies_true, forall_const]
    exact fun ⟨j, hj, _⟩ => absurd hj (Nat.not_lt_zero _)
  · rintro i e m hi hi' ⟨h0, h1, h6, h7, h8, hs⟩
    unfold a72_0
    simp -implicitDefEqProofs only [vqa, Nat.reduceEqDiff, Nat.reduceAdd, reduceIte, Nat.reduceLeDiff, Nat.reduceBEq, Nat.reduceLT, Nat.reduceSub, Int.reduceLT, Int.reduceLE, Int.reduceEq, Int.reduceToNat, Nat.reduceMul, eq_self, implies_true, forall_const, h0, h1, h6, h7, h8, hi', hf i hi]
    refine ⟨by omega, fun he => ⟨_, rfl, fun _ => ⟨i, hi, he.symm⟩, fun _ => by omega⟩, fun hne => ⟨hi, wI (by omega) (by omega), fun h => ?_⟩⟩
    rcases seen_succ.1 h with h | h
    · exact hs h
    · exact hne h.symm
  · rintro e m ⟨h0, h1, h6, h7, h8, hs⟩
    unfold a72_0
    simp -implicitDefEqProofs only [vqa, Nat.reduceEqDiff, Nat.reduceAdd, reduceIte, Nat.reduceLeDiff, Nat.reduceBEq, Nat.reduceLT, Nat.reduceSub, Int.reduceLT, Int.reduceLE, Int.reduceEq, Int.reduceToNat, Nat.reduceMul, eq_self, implies_true, forall_const, h0, h1, h6, h7, h8]
    exact ⟨_, rfl, fun h => absurd h (by decide), fun h => absurd h hs⟩

theorem p64 (n : Nat) (x : Nat → ByteArray) (f : Nat → AV) (q : ByteArray) (hf : ∀ i, i < n → f i = .str (x i)) (hn : n ≤ 1048576) : Pure PP 64 [.fs n f, .str q] fun r => ∃ b, r = .bool b ∧ (b = true ↔ seenB x n q) := by
  refine Fn.pure fmix f64 ?_
  unfold a64 r64
  simp -implicitDefEqProofs only [vqa, Nat.reduceEqDiff, Nat.reduceAdd, reduceIte, Nat.reduceLeDiff, Nat.reduceBEq, Nat.reduceLT, Nat.reduceSub, Int.reduceLT, Int.reduceLE, Int.reduceEq, Int.reduceToNat, Nat.reduceMul, eq_self, implies_true, forall_const]
  refine CallW.sc (p72 n x f q hf hn) rfl ⟨trivial, trivial, trivial⟩ fun r ⟨k, hr, hk⟩ => ⟨by subst hr; rfl, ?_⟩
  subst hr
  simp -implicitDefEqProofs only [vqa, Nat.reduceEqDiff, Nat.reduceAdd, reduceIte, Nat.reduceLeDiff, Nat.reduceBEq, Nat.reduceLT, Nat.reduceSub, Int.reduceLT, Int.reduceLE, Int.reduceEq, Int.reduceToNat, Nat.reduceMul, eq_self, implies_true, forall_const]
  exact ⟨_, rfl, by simpa using hk⟩

theorem p57 (n : Nat) (x : Nat → ByteArray) (f : Nat → AV) (hf : ∀ i, i < n → f i = .str (x i)) (hn : n ≤ 1048576) : Pure PP 57 [.fs n f] fun r => r = .int .i64 (namesF x n) := by
  refine Fn.pure fmix f57 ?_
  unfold a57 r57
  simp -implicitDefEqProofs only [vqa, Nat.reduceEqDiff, Nat.reduceAdd, reduceIte, Nat.reduceLeDiff, Nat.reduceBEq, Nat.reduceLT, Nat.reduceSub, Int.reduceLT, Int.reduceLE, Int.reduceEq, Int.reduceToNat, Nat.reduceMul, eq_self, implies_true, forall_const]
  refine vFor n (fun i e m => e 7 = .fs n f ∧ e 8 = .int .i64 n ∧ e 9 = .int .i64 i ∧ scan (nameAt x) i = 0 ∧ ∃ ver p g, e 3 = .mp 6 ver ∧ m 6 = .map ver .str (some .i64) p g ∧ ∀ q, (seenB x i q → g (.string q) = 1) ∧ (¬ seenB x i q → g (.string q) = 0)) ?_ ?_ ?_
  · simp -implicitDefEqProofs only [vqa, Nat.reduceEqDiff, Nat.reduceAdd, reduceIte, Nat.reduceLeDiff, Nat.reduceBEq, Nat.reduceLT, Nat.reduceSub, Int.reduceLT, Int.reduceLE, Int.reduceEq, Int.reduceToNat, Nat.reduceMul, eq_self, implies_true, forall_const]
    exact ⟨rfl, _, _, _, rfl, rfl, fun q => ⟨fun ⟨j, hj, _⟩ => absurd hj (Nat.not_lt_zero _), fun _ => rfl⟩⟩
  · rintro i e m hi hi' ⟨h7, h8, h9, hs, ver, p, g, h3, hm, hg⟩
    unfold a57_0
    simp -implicitDefEqProofs only [vqa, Nat.reduceEqDiff, Nat.reduceAdd, reduceIte, Nat.reduceLeDiff, Nat.reduceBEq, Nat.reduceLT, Nat.reduceSub, Int.reduceLT, Int.reduceLE, Int.reduceEq, Int.reduceToNat, Nat.reduceMul, eq_self, implies_true, forall_const, h7, h8, h9, h3, hm, hi', hf i hi]
    refine ⟨by omega, ?_⟩
    refine CallW.sc (p69 (x i)) rfl ⟨trivial, trivial⟩ fun r hr => ⟨by subst hr; rfl, ?_⟩
    subst hr
    simp -implicitDefEqProofs only [vqa, Nat.reduceEqDiff, Nat.reduceAdd, reduceIte, Nat.reduceLeDiff, Nat.reduceBEq, Nat.reduceLT, Nat.reduceSub, Int.reduceLT, Int.reduceLE, Int.reduceEq, Int.reduceToNat, Nat.reduceMul, eq_self, implies_true, forall_const, h7, h8, h9, h3, hm]
    refine ⟨fun hb => (scan_stop hs (nameAt_bad hb) (by decide) n hi).symm, fun hok => ?_⟩
    have hok := Classical.not_not.1 hok
    by_cases hsn : seenB x i (x i)
    · rw [(hg (x i)).1 hsn]
      refine ⟨fun _ => (scan_stop hs (nameAt_twice hok hsn) (by decide) n hi).symm, fun h => absurd (show (1 : Int) < IntKind.i64.wrap (1 + 1) by decide) h⟩
    · rw [(hg (x i)).2 hsn]
      refine ⟨fun h => absurd h (by decide), fun _ => ⟨hi, wI (by omega) (by omega), scan_step hs (nameAt_ok hok hsn), _, _, _, rfl, rfl, fun q => ?_⟩⟩
      by_cases e1 : q = x i
      · subst e1
        refine ⟨fun _ => ?_, fun h => absurd (seen_succ.2 (.inr rfl)) h⟩
        simp only [keyEq_str, decide_true, cond_true]
        decide
      · have e2 : seenB x (i + 1) q ↔ seenB x i q := by rw [seen_succ]; exact ⟨fun h => h.elim id fun h => absurd h.symm e1, .inl⟩
        rw [e2]
        simp only [keyEq_str, e1, decide_false, cond_false]
        exact hg q
  · rintro e m ⟨h7, h8, h9, hs, ver, p, g, h3, hm, hg⟩
    unfold a57_0
    simp -implicitDefEqProofs only [vqa, Nat.reduceEqDiff, Nat.reduceAdd, reduceIte, Nat.reduceLeDiff, Nat.reduceBEq, Nat.reduceLT, Nat.reduceSub, Int.reduceLT, Int.reduceLE, Int.reduceEq, Int.reduceToNat, Nat.reduceMul, eq_self, implies_true, forall_const, h7, h8, h9, h3, hm]
    exact hs.symm

theorem p44 (n : Nat) (x : Nat → ByteArray) (f : Nat → AV) (hf : ∀ i, i < n → f i = .str (x i)) (hx : ∀ i, i < n → (x i).size ≤ 1048576) (hn : n ≤ 1048576) : Pure PP 44 [.fs n f] fun r => r = .int .i64 (namesF x n) := by
  refine Fn.pure fmix f44 ?_
  unfold a44 r44
  simp -implicitDefEqProofs only [vqa, Nat.reduceEqDiff, Nat.reduceAdd, reduceIte, Nat.reduceLeDiff, Nat.reduceBEq, Nat.reduceLT, Nat.reduceSub, Int.reduceLT, Int.reduceLE, Int.reduceEq, Int.reduceToNat, Nat.reduceMul, eq_self, implies_true, forall_const]
  refine vFor n (fun i e m => e 0 = .fs n f ∧ e 5 = .fs n f ∧ e 6 = .int .i64 n ∧ e 7 = .int .i64 i ∧ scan (nameAt x) i = 0) ?_ ?_ ?_
  · simp -implicitDefEqProofs only [vqa, Nat.reduceEqDiff, Nat.reduceAdd, reduceIte, Nat.reduceLeDiff, Nat.reduceBEq, Nat.reduceLT, Nat.reduceSub, Int.reduceLT, Int.reduceLE, Int.reduceEq, Int.reduceToNat, Nat.reduceMul, eq_self, implies_true, forall_const]
    rfl
  · rintro i e m hi hi' ⟨h0, h5, h6, h7, hs⟩
    unfold a44_0
    simp -implicitDefEqProofs only [vqa, Nat.reduceEqDiff, Nat.reduceAdd, reduceIte, Nat.reduceLeDiff, Nat.reduceBEq, Nat.reduceLT, Nat.reduceSub, Int.reduceLT, Int.reduceLE, Int.reduceEq, Int.reduceToNat, Nat.reduceMul, eq_self, implies_true, forall_const, h0, h5, h6, h7, hi', hf i hi]
    refine ⟨by omega, ?_⟩
    refine CallW.sc (p63 (x i) (hx i hi)) rfl ⟨trivial, trivial⟩ fun r hr => ⟨by subst hr; rfl, ?_⟩
    subst hr
    simp -implicitDefEqProofs only [vqa, Nat.reduceEqDiff, Nat.reduceAdd, reduceIte, Nat.reduceLeDiff, Nat.reduceBEq, Nat.reduceLT, Nat.reduceSub, Int.reduceLT, Int.reduceLE, Int.reduceEq, Int.reduceToNat, Nat.reduceMul, eq_self, implies_true, forall_const, h0, h5, h6, h7, bound]
    refine ⟨fun hb => (scan_stop hs (nameAt_bad hb) (by decide) n hi).symm, fun hok => ⟨⟨by omega, by omega, fun _ => by rw [hf 0 (by omega)]; rfl⟩, ?_⟩⟩
    have hok := Classical.not_not.1 hok
    have hin : ((i : Int) - 0).toNat = i := by omega
    rw [hin]
    refine CallW.sc (p64 i x (fun i => f i) (x i) (fun j hj => hf j (by omega)) (by omega)) rfl ⟨trivial, trivial, trivial⟩ fun r ⟨b, hr, hb⟩ => ⟨by subst hr; rfl, ?_⟩
    subst hr
    simp -implicitDefEqProofs only [vqa, Nat.reduceEqDiff, Nat.reduceAdd, reduceIte, Nat.reduceLeDiff, Nat.reduceBEq, Nat.reduceLT, Nat.reduceSub, Int.reduceLT, Int.reduceLE, Int.reduceEq, Int.reduceToNat, Nat.reduceMul, eq_self, implies_true, forall_const, h0, h5, h6, h7, cndB]
    refine ⟨fun hbt => (scan_stop hs (nameAt_twice hok (hb.1 hbt)) (by decide) n hi).symm, fun hbf => ⟨hi, wI (by omega) (by omega), scan_step hs (nameAt_ok hok fun h => ?_)⟩⟩
    rw [hb.2 h] at hbf; cases hbf
  · rintro e m ⟨h0, h5, h6, h7, hs⟩
    unfold a44_0
    simp -implicitDefEqProofs only [vqa, Nat.reduceEqDiff, Nat.reduceAdd, reduceIte, Nat.reduceLeDiff, Nat.reduceBEq, Nat.reduceLT, Nat.reduceSub, Int.reduceLT, Int.reduceLE, Int.reduceEq, Int.reduceToNat, Nat.reduceMul, eq_self, implies_true, forall_const, h0, h5, h6, h7]
    exact hs.symm
end Go.Ab
