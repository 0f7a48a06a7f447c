/- Walks: tables that are filled by a function. -/
import Derived.Test.YtiecnmojbdogfaaSaBase
import Derived.Test.YtiecnmojbdogfaaLwCut
set_option linter.unusedSimpArgs false
set_option linter.unusedVariables false
namespace Go.Ab
open Go
def a33 : AC := (.seq (.ops [⟨(some 4), none, (.v (.mv (.c (.bool false))))⟩]) (.seq (.ops [⟨(some 5), none, (.v (.mv (.t 0)))⟩, ⟨(some 6), none, (.v (.mv (.t 1)))⟩, ⟨(some 7), none, (.v (.bin .shr (.t 5) (.t 6)))⟩, ⟨(some 8), none, (.v (.bin .and (.t 7) (.c (.int .u64 1))))⟩, ⟨(some 9), none, (.v (.bin .eql (.t 8) (.c (.int .u64 1))))⟩, ⟨(some 4), none, (.v (.mv (.t 9)))⟩]) .ret))
def r33 : List AI := [(.mv (.t 4))]
theorem f33 : Fn PP 33 2 a33 r33 := Fn.of (fn := Go.Proofs.Try.f33) (by kernel_rfl) (by kernel_rfl) (by kernel_rfl)
def a34_0 : AC := (.seq (.ops [⟨(some 9), none, (.v (.bin .lss (.t 8) (.t 7)))⟩]) (.seq (.cond (.t 9) .skip (.exit 0)) (.seq (.block 1 (.seq (.ops [⟨(some 10), none, (.v (.mv (.t 8)))⟩, ⟨(some 11), none, (.v (.idx 1 (.t 6) (.t 8)))⟩, ⟨(some 12), none, (.v (.load 1 false (.t 11)))⟩, ⟨(some 4), none, (.v (.mv (.t 10)))⟩, ⟨(some 5), none, (.v (.mv (.t 12)))⟩]) (.seq (.ops [⟨(some 13), none, (.v (.mv (.t 5)))⟩]) (.cond (.t 13) (.ops [⟨(some 14), none, (.v (.mv (.t 3)))⟩, ⟨(some 15), none, (.v (.mv (.t 4)))⟩, ⟨(some 16), none, (.v (.bin .shl (.c (.int .i64 1)) (.t 15)))⟩, ⟨(some 17), none, (.v (.bin .add (.t 14) (.t 16)))⟩, ⟨(some 3), none, (.v (.mv (.t 17)))⟩]) .skip)))) (.ops [⟨(some 18), none, (.v (.bin .add (.t 8) (.c (.int .i64 1))))⟩, ⟨(some 8), none, (.v (.mv (.t 18)))⟩]))))
def a34 : AC := (.seq (.ops [⟨(some 2), none, (.v (.mv (.c (.int .i64 0))))⟩]) (.seq (.ops [⟨(some 3), none, (.v (.mv (.c (.int .i64 0))))⟩]) (.seq (.seq (.ops [⟨(some 6), none, (.v (.mv (.t 0)))⟩, ⟨(some 7), none, (.v (.len (.t 6)))⟩, ⟨(some 8), none, (.v (.mv (.c (.int .i64 0))))⟩]) (.block 0 (.loop a34_0))) (.seq (.ops [⟨(some 19), none, (.v (.mv (.t 3)))⟩, ⟨(some 2), none, (.v (.mv (.t 19)))⟩]) .ret))))
def r34 : List AI := [(.mv (.t 2))]
theorem f34 : Fn PP 34 1 a34 r34 := Fn.of (fn := Go.Proofs.Try.f34) (by kernel_rfl) (by kernel_rfl) (by kernel_rfl)
def a31_0 : AC := (.seq (.ops [⟨(some 9), none, (.v (.bin .lss (.t 8) (.t 7)))⟩]) (.seq (.cond (.t 9) .skip (.exit 0)) (.seq (.block 1 (.seq (.ops [⟨(some 10), none, (.v (.mv (.t 8)))⟩, ⟨(some 6), none, (.v (.mv (.t 10)))⟩]) (.ops [⟨(some 11), none, (.v (.mv (.t 5)))⟩, ⟨(some 12), none, (.v (.mv (.t 0)))⟩, ⟨(some 13), none, (.v (.mv (.t 6)))⟩, ⟨(some 14), none, (.v (.bin .shr (.t 12) (.t 13)))⟩, ⟨(some 15), none, (.v (.bin .and (.t 14) (.c (.int .i64 1))))⟩, ⟨(some 16), none, (.v (.bin .eql (.t 15) (.c (.int .i64 1))))⟩, ⟨(some 17), none, (.e (.lit 17 4 1 1 [(.bool false)] [(0, (.t 16))]))⟩, ⟨(some 18), none, (.e (.app 18 4 1 1 (.t 11) (.t 17)))⟩, ⟨(some 5), none, (.v (.mv (.t 18)))⟩]))) (.ops [⟨(some 19), none, (.v (.bin .add (.t 8) (.c (.int .i64 1))))⟩, ⟨(some 8), none, (.v (.mv (.t 19)))⟩]))))
def a31 : AC := (.seq (.ops [⟨(some 4), none, (.v (.mv (.c .cap0)))⟩]) (.seq (.ops [⟨(some 5), none, (.v (.mv (.c .cap0)))⟩]) (.seq (.seq (.ops [⟨(some 7), none, (.v (.mv (.t 1)))⟩, ⟨(some 8), none, (.v (.mv (.c (.int .i64 0))))⟩]) (.block 0 (.loop a31_0))) (.seq (.ops [⟨(some 20), none, (.v (.mv (.t 5)))⟩, ⟨(some 4), none, (.v (.mv (.t 20)))⟩]) .ret))))
def r31 : List AI := [(.mv (.t 4))]
theorem f31 : Fn PP 31 2 a31 r31 := Fn.of (fn := Go.Proofs.Try.f31) (by kernel_rfl) (by kernel_rfl) (by kernel_rfl)
def b8_0 (b : Nat) : AC := (.seq (.ops [⟨(some 10), none, (.v (.bin .lss (.t 9) (.t 8)))⟩]) (.seq (.cond (.t 10) .skip (.exit 0)) (.seq (.block 1 (.seq (.ops [⟨(some 11), none, (.v (.mv (.t 9)))⟩, ⟨(some 6), none, (.v (.mv (.t 11)))⟩]) (.seq (.ops [⟨(some 12), none, (.v (.mv (.t 1)))⟩, ⟨(some 13), none, (.v (.mv (.t 6)))⟩, ⟨(some 14), none, (.v (.mv (.t 0)))⟩, ⟨(some 15), none, (.call (.c (.fn 31 [])) [(.t 13), (.t 14)])⟩, ⟨(some 16), none, (.call (.t 12) [(.t 15)])⟩]) (.cond (.t 16) (.ops [⟨(some 17), none, (.v (.mv (.t 5)))⟩, ⟨(some 18), none, (.v (.mv (.t 6)))⟩, ⟨(some 19), none, (.v (.bin .shl (.c (.int .u64 1)) (.t 18)))⟩, ⟨(some 20), none, (.v (.bin .or (.t 17) (.t 19)))⟩, ⟨(some 5), none, (.v (.mv (.t 20)))⟩]) .skip)))) (.ops [⟨(some 21), none, (.v (.bin .add (.t 9) (.c (.int .i64 1))))⟩, ⟨(some 9), none, (.v (.mv (.t 21)))⟩]))))
def b8 (b : Nat) : AC := (.seq (.ops [⟨(some 4), none, (.v (.mv (.c (.int .u64 0))))⟩]) (.seq (.ops [⟨(some 5), none, (.v (.mv (.c (.int .u64 0))))⟩]) (.seq (.seq (.ops [⟨(some 7), none, (.v (.mv (.t 0)))⟩, ⟨(some 8), none, (.v (.bin .shl (.c (.int .i64 1)) (.t 7)))⟩, ⟨(some 9), none, (.v (.mv (.c (.int .i64 0))))⟩]) (.block 0 (.loop (b8_0 b)))) (.seq (.ops [⟨(some 22), none, (.v (.mv (.t 5)))⟩, ⟨(some 4), none, (.v (.mv (.t 22)))⟩]) .ret))))
def q8 : List AI := [(.mv (.t 4))]
theorem g8 (b : Nat) : Fn PP 8 2 (b8 b) q8 := Fn.ofB b (fn := Go.Proofs.Try.f8) (by kernel_rfl) (by kernel_rfl) (by kernel_rfl)
theorem p33 (t : Int) (k : Nat) (ht : U64 t) (hk : k < 64) : Pure PP 33 [.int .u64 t, .int .i64 (k : Nat)] fun r => r = .bool (bit t k) := by
  refine Fn.pure fmix f33 ?_
  unfold a33 r33
  simp -implicitDefEqProofs only [vqa, Nat.reduceEqDiff, Nat.reduceAdd, reduceIte, Nat.reduceLeDiff, Nat.reduceBEq, Nat.reduceLT, Nat.reduceSub, Int.reduceLT, Int.reduceLE, Int.reduceEq, Int.reduceToNat, Nat.reduceMul, eq_self, implies_true, forall_const]
  exact ⟨by omega, tabB_bit ht hk⟩
theorem p34 (n : Nat) (hn : n ≤ 6) (b : Nat → Bool) (f : Nat → AV) (hf : ∀ i, i < n → f i = .bool (b i)) : Pure PP 34 [.fs n f] fun r => r = .int .i64 ((rowB b n : Nat) : Int) := by
  refine Fn.pure fmix f34 ?_
  unfold a34 r34
  simp -implicitDefEqProofs only [vqa, Nat.reduceEqDiff, Nat.reduceAdd, reduceIte, Nat.reduceLeDiff, Nat.reduceBEq, Nat.reduceLT, Nat.reduceSub, Int.reduceLT, Int.reduceLE, Int.reduceEq, Int.reduceToNat, Nat.reduceMul, eq_self, implies_true, forall_const]
  refine vFor n (fun i e m => e 3 = .int .i64 ((rowB b i : Nat) : Int) ∧ e 6 = .fs n f ∧ e 7 = .int .i64 n ∧ e 8 = .int .i64 i) ?_ ?_ ?_
  · simp -implicitDefEqProofs only [vqa, Nat.reduceEqDiff, Nat.reduceAdd, reduceIte, Nat.reduceLeDiff, Nat.reduceBEq, Nat.reduceLT, Nat.reduceSub, Int.reduceLT, Int.reduceLE, Int.reduceEq, Int.reduceToNat, Nat.reduceMul, eq_self, implies_true, forall_const]
    rfl
  · rintro i e m hi hi' ⟨h3, h6, h7, h8⟩
    have hl := rowB_lt b i
    have h64 : 2 ^ i ≤ 64 := by
      have := Nat.pow_le_pow_right (n := 2) (by decide) (show i ≤ 6 by omega)
      simpa using this
    have hst : rowB b (i + 1) = rowB b i + if b i = true then 2 ^ i else 0 := rfl
    unfold a34_0
    cases hb : b i with
    | true =>
      rw [hb, if_pos rfl] at hst
      simp -implicitDefEqProofs only [vqa, Nat.reduceEqDiff, Nat.reduceAdd, reduceIte, Nat.reduceLeDiff, Nat.reduceBEq, Nat.reduceLT, Nat.reduceSub, Int.reduceLT, Int.reduceLE, Int.reduceEq, Int.reduceToNat, Nat.reduceMul, eq_self, implies_true, forall_const, h3, h6, h7, h8, hi', hf i hi, hb]
      refine ⟨by omega, by omega, hi, ?_, wI (by omega) (by omega)⟩
      rw [shl_one (by omega), hst, wI (by omega) (by omega)]; omega
    | false =>
      rw [hb, if_neg (by simp)] at hst
      simp -implicitDefEqProofs only [vqa, Nat.reduceEqDiff, Nat.reduceAdd, reduceIte, Nat.reduceLeDiff, Nat.reduceBEq, Nat.reduceLT, Nat.reduceSub, Int.reduceLT, Int.reduceLE, Int.reduceEq, Int.reduceToNat, Nat.reduceMul, eq_self, implies_true, forall_const, h3, h6, h7, h8, hi', hf i hi, hb]
      exact ⟨by omega, hi, by rw [hst]; rfl, wI (by omega) (by omega)⟩
  · rintro e m ⟨h3, h6, h7, h8⟩
    unfold a34_0
    simp -implicitDefEqProofs only [vqa, Nat.reduceEqDiff, Nat.reduceAdd, reduceIte, Nat.reduceLeDiff, Nat.reduceBEq, Nat.reduceLT, Nat.reduceSub, Int.reduceLT, Int.reduceLE, Int.reduceEq, Int.reduceToNat, Nat.reduceMul, eq_self, implies_true, forall_const, h3, h6, h7, h8]
theorem p31r (k n : Nat) (hk : k < 64) (hn : n ≤ 6) : CallW PP 31 [.int .i64 (k : Nat), .int .i64 (n : Nat)] mem0 fun r m => (r = .cap0 ∧ n = 0) ∨ ∃ id ver e sz n' g, r = .sl id ver n' ∧ m id = .row ver e sz n' g ∧ (n' = n ∧ e = 4 ∧ sz = 1 ∧ ∀ i, i < n → g i = .bool (k.testBit i)) := by
  refine Fn.call fmix f31 ?_
  unfold a31 r31
  simp -implicitDefEqProofs only [vqa, Nat.reduceEqDiff, Nat.reduceAdd, reduceIte, Nat.reduceLeDiff, Nat.reduceBEq, Nat.reduceLT, Nat.reduceSub, Int.reduceLT, Int.reduceLE, Int.reduceEq, Int.reduceToNat, Nat.reduceMul, eq_self, implies_true, forall_const]
  refine vFor n (fun i e m => e 0 = .int .i64 k ∧ e 7 = .int .i64 n ∧ e 8 = .int .i64 i ∧ Acc 18 4 1 i (fun j a => a = .bool (k.testBit j)) (e 5) m) ?_ ?_ ?_
  · simp -implicitDefEqProofs only [vqa, Nat.reduceEqDiff, Nat.reduceAdd, reduceIte, Nat.reduceLeDiff, Nat.reduceBEq, Nat.reduceLT, Nat.reduceSub, Int.reduceLT, Int.reduceLE, Int.reduceEq, Int.reduceToNat, Nat.reduceMul, eq_self, implies_true, forall_const]
    exact .none
  · rintro i e m hi hi' ⟨h0, h7, h8, hA⟩
    have hv : decide (bitop .and .i64 ((k : Int).fdiv (2 ^ min i 64)) 1 = 1) = k.testBit i := by
      rw [and_bit k hk i (by omega)]
      cases k.testBit i <;> rfl
    unfold a31_0
    rcases hA with ⟨hz, h3⟩ | ⟨ver, g, h3, hm3, hg⟩
    · simp -implicitDefEqProofs only [vqa, Nat.reduceEqDiff, Nat.reduceAdd, reduceIte, Nat.reduceLeDiff, Nat.reduceBEq, Nat.reduceLT, Nat.reduceSub, Int.reduceLT, Int.reduceLE, Int.reduceEq, Int.reduceToNat, Nat.reduceMul, eq_self, implies_true, forall_const, h0, h7, h8, h3, hi']
      subst hz
      exact ⟨by omega, hi, wI (by omega) (by omega), .first (congrArg AV.bool hv)⟩
    · simp -implicitDefEqProofs only [vqa, Nat.reduceEqDiff, Nat.reduceAdd, reduceIte, Nat.reduceLeDiff, Nat.reduceBEq, Nat.reduceLT, Nat.reduceSub, Int.reduceLT, Int.reduceLE, Int.reduceEq, Int.reduceToNat, Nat.reduceMul, eq_self, implies_true, forall_const, h0, h7, h8, h3, hm3, hi']
      exact ⟨by omega, ⟨by omega, by omega⟩, hi, wI (by omega) (by omega), .push hg (congrArg AV.bool hv)⟩
  · rintro e m ⟨h0, h7, h8, hA⟩
    unfold a31_0
    rcases hA with ⟨hz, h3⟩ | ⟨ver, g, h3, hm3, hg⟩
    · simp -implicitDefEqProofs only [vqa, Nat.reduceEqDiff, Nat.reduceAdd, reduceIte, Nat.reduceLeDiff, Nat.reduceBEq, Nat.reduceLT, Nat.reduceSub, Int.reduceLT, Int.reduceLE, Int.reduceEq, Int.reduceToNat, Nat.reduceMul, eq_self, implies_true, forall_const, h0, h7, h8, h3]
      exact .inl hz
    · simp -implicitDefEqProofs only [vqa, Nat.reduceEqDiff, Nat.reduceAdd, reduceIte, Nat.reduceLeDiff, Nat.reduceBEq, Nat.reduceLT, Nat.reduceSub, Int.reduceLT, Int.reduceLE, Int.reduceEq, Int.reduceToNat, Nat.reduceMul, eq_self, implies_true, forall_const, h0, h7, h8, h3, hm3]
      exact .inr ⟨_, _, _, _, _, _, rfl, hm3, rfl, rfl, rfl, hg⟩
/-- What is known of the function that fills. -/
def Fills (b n fid : Nat) (caps : List AV) (c : Nat → Bool) (J : Nat → Prop) (mem : Mem) : Prop :=
  ∀ k, k < 2 ^ n → ∀ (m : Mem) (x : AV), (∀ o, J o → m o = mem o) → Acc (b + 15) 4 1 n (fun i a => a = .bool (k.testBit i)) x m → CallW PP fid (x :: caps) m fun r m' => r = .bool (c k) ∧ ∀ o, J o → m' o = mem o
theorem p8 (b n : Nat) (hn : n ≤ 6) {fid : Nat} {caps : List AV} {c : Nat → Bool} {J : Nat → Prop} {mem : Mem} (hJ : ∀ o, J o → o < b) (hcl : Fills b n fid caps c J mem) :
    CallW PP 8 [.int .i64 (n : Nat), .fn fid caps] mem fun r m' => (∃ t, r = .int .u64 t ∧ U64 t ∧ ∀ j, j < 64 → bit t j = (decide (j < 2 ^ n) && c j)) ∧ ∀ o, J o → m' o = mem o := by
  have hs := shl_one (show n < 7 by omega)
  have h64 : 2 ^ n ≤ 64 := by
    have := Nat.pow_le_pow_right (n := 2) (by decide) hn
    simpa using this
  refine Fn.call fmix (g8 b) ?_
  unfold b8 q8
  simp -implicitDefEqProofs only [vqa, Nat.reduceEqDiff, Nat.reduceAdd, reduceIte, Nat.reduceLeDiff, Nat.reduceBEq, Nat.reduceLT, Nat.reduceSub, Int.reduceLT, Int.reduceLE, Int.reduceEq, Int.reduceToNat, Nat.reduceMul, eq_self, implies_true, forall_const, hs]
  refine ⟨by omega, ?_⟩
  refine vFor (2 ^ n) (fun i e m => e 0 = .int .i64 n ∧ e 1 = .fn fid caps ∧ e 8 = .int .i64 ((2 ^ n : Nat) : Int) ∧ e 9 = .int .i64 i ∧ (∃ t, e 5 = .int .u64 t ∧ U64 t ∧ ∀ j, j < 64 → bit t j = (decide (j < i) && c j)) ∧ ∀ o, J o → m o = mem o) ?_ ?_ ?_
  · simp -implicitDefEqProofs only [vqa, Nat.reduceEqDiff, Nat.reduceAdd, reduceIte, Nat.reduceLeDiff, Nat.reduceBEq, Nat.reduceLT, Nat.reduceSub, Int.reduceLT, Int.reduceLE, Int.reduceEq, Int.reduceToNat, Nat.reduceMul, eq_self, implies_true, forall_const]
    exact ⟨0, rfl, ⟨by decide, by decide⟩, fun j _ => bit_zero j⟩
  · rintro i e m hi hi' ⟨h0, h1, h8, h9, ⟨t, h5, ht, hb⟩, hm⟩
    unfold b8_0
    simp -implicitDefEqProofs only [vqa, Nat.reduceEqDiff, Nat.reduceAdd, reduceIte, Nat.reduceLeDiff, Nat.reduceBEq, Nat.reduceLT, Nat.reduceSub, Int.reduceLT, Int.reduceLE, Int.reduceEq, Int.reduceToNat, Nat.reduceMul, eq_self, implies_true, forall_const, h0, h1, h8, h9, h5, hi']
    refine CallW.own0 (b + 15) (p31r i n (by omega) hn) rfl rfl (fun hz => ?_) (fun e' sz n' g ⟨e1, e2, e3, hg⟩ => ?_)
    · simp -implicitDefEqProofs only [vqa, Nat.reduceEqDiff, Nat.reduceAdd, reduceIte, Nat.reduceLeDiff, Nat.reduceBEq, Nat.reduceLT, Nat.reduceSub, Int.reduceLT, Int.reduceLE, Int.reduceEq, Int.reduceToNat, Nat.reduceMul, eq_self, implies_true, forall_const, h0, h1, h8, h9, h5]
      refine (hcl i hi _ _ hm (.inl ⟨hz, rfl⟩)).mono fun r m' ⟨hr, hm'⟩ => ?_
      subst hr
      cases hc : c i with
      | true =>
        simp -implicitDefEqProofs only [vqa, Nat.reduceEqDiff, Nat.reduceAdd, reduceIte, Nat.reduceLeDiff, Nat.reduceBEq, Nat.reduceLT, Nat.reduceSub, Int.reduceLT, Int.reduceLE, Int.reduceEq, Int.reduceToNat, Nat.reduceMul, eq_self, implies_true, forall_const, h0, h1, h8, h9, h5, shl_pow (show i < 64 by omega)]
        exact ⟨by omega, hi, wI (by omega) (by omega), ⟨_, rfl, u64_or _ _, fill_step (by omega) hb hc⟩, hm'⟩
      | false =>
        simp -implicitDefEqProofs only [vqa, Nat.reduceEqDiff, Nat.reduceAdd, reduceIte, Nat.reduceLeDiff, Nat.reduceBEq, Nat.reduceLT, Nat.reduceSub, Int.reduceLT, Int.reduceLE, Int.reduceEq, Int.reduceToNat, Nat.reduceMul, eq_self, implies_true, forall_const, h0, h1, h8, h9, h5]
        exact ⟨hi, wI (by omega) (by omega), ⟨_, rfl, ht, fill_skip hb hc⟩, hm'⟩
    · subst e1; subst e2; subst e3
      simp -implicitDefEqProofs only [vqa, Nat.reduceEqDiff, Nat.reduceAdd, reduceIte, Nat.reduceLeDiff, Nat.reduceBEq, Nat.reduceLT, Nat.reduceSub, Int.reduceLT, Int.reduceLE, Int.reduceEq, Int.reduceToNat, Nat.reduceMul, eq_self, implies_true, forall_const, h0, h1, h8, h9, h5]
      refine (hcl i hi _ _ (fun o ho => by rw [set_ne (by have := hJ o ho; omega)]; exact hm o ho) (.inr ⟨_, g, rfl, set_same _ _ _, hg⟩)).mono fun r m' ⟨hr, hm'⟩ => ?_
      subst hr
      cases hc : c i with
      | true =>
        simp -implicitDefEqProofs only [vqa, Nat.reduceEqDiff, Nat.reduceAdd, reduceIte, Nat.reduceLeDiff, Nat.reduceBEq, Nat.reduceLT, Nat.reduceSub, Int.reduceLT, Int.reduceLE, Int.reduceEq, Int.reduceToNat, Nat.reduceMul, eq_self, implies_true, forall_const, h0, h1, h8, h9, h5, shl_pow (show i < 64 by omega)]
        exact ⟨by omega, hi, wI (by omega) (by omega), ⟨_, rfl, u64_or _ _, fill_step (by omega) hb hc⟩, hm'⟩
      | false =>
        simp -implicitDefEqProofs only [vqa, Nat.reduceEqDiff, Nat.reduceAdd, reduceIte, Nat.reduceLeDiff, Nat.reduceBEq, Nat.reduceLT, Nat.reduceSub, Int.reduceLT, Int.reduceLE, Int.reduceEq, Int.reduceToNat, Nat.reduceMul, eq_self, implies_true, forall_const, h0, h1, h8, h9, h5]
        exact ⟨hi, wI (by omega) (by omega), ⟨_, rfl, ht, fill_skip hb hc⟩, hm'⟩
  · rintro e m ⟨h0, h1, h8, h9, ⟨t, h5, ht, hb⟩, hm⟩
    unfold b8_0
    simp -implicitDefEqProofs only [vqa, Nat.reduceEqDiff, Nat.reduceAdd, reduceIte, Nat.reduceLeDiff, Nat.reduceBEq, Nat.reduceLT, Nat.reduceSub, Int.reduceLT, Int.reduceLE, Int.reduceEq, Int.reduceToNat, Nat.reduceMul, eq_self, implies_true, forall_const, h0, h1, h8, h9, h5]
    exact ⟨⟨t, rfl, ht, hb⟩, hm⟩
end Go.Ab
