/- Walks: the maker's tables. -/
import Derived.Test.YtodncnlnadgkhacSaMak2
import Derived.Test.YtodncnlnadgkhacFwZ
set_option linter.unusedSimpArgs false
set_option linter.unusedVariables false
namespace Go.Ab
open Go
def a57_0 : AC := (.seq (.ops [⟨(some 11), none, (.v (.bin .lss (.t 10) (.t 9)))⟩]) (.seq (.cond (.t 11) .skip (.exit 0)) (.seq (.block 1 (.seq (.ops [⟨(some 12), none, (.v (.mv (.t 10)))⟩, ⟨(some 7), none, (.v (.mv (.t 12)))⟩]) (.seq (.any [⟨(some 13), none, (.v (.mv (.t 7)))⟩, ⟨(some 14), none, (.v (.mv (.t 2)))⟩, ⟨(some 15), none, (.v (.bin .shr (.t 13) (.t 14)))⟩, ⟨(some 16), none, (.v (.bin .and (.t 15) (.c (.int .i64 1))))⟩, ⟨(some 17), none, (.v (.bin .eql (.t 16) (.c (.int .i64 0))))⟩, ⟨(some 18), none, (.v (.mv (.t 17)))⟩, ⟨(some 19), (some (18, true)), (.v (.mv (.t 0)))⟩, ⟨(some 20), (some (18, true)), (.v (.mv (.t 7)))⟩, ⟨(some 21), (some (18, true)), (.v (.bin .shr (.t 19) (.t 20)))⟩, ⟨(some 22), (some (18, true)), (.v (.bin .and (.t 21) (.c (.int .u64 1))))⟩, ⟨(some 23), (some (18, true)), (.v (.mv (.t 0)))⟩, ⟨(some 24), (some (18, true)), (.v (.mv (.t 7)))⟩, ⟨(some 25), (some (18, true)), (.v (.mv (.t 2)))⟩, ⟨(some 26), (some (18, true)), (.v (.bin .shl (.c (.int .i64 1)) (.t 25)))⟩, ⟨(some 27), (some (18, true)), (.v (.bin .or (.t 24) (.t 26)))⟩, ⟨(some 28), (some (18, true)), (.v (.bin .shr (.t 23) (.t 27)))⟩, ⟨(some 29), (some (18, true)), (.v (.bin .and (.t 28) (.c (.int .u64 1))))⟩, ⟨(some 30), (some (18, true)), (.v (.bin .neq (.t 22) (.t 29)))⟩, ⟨(some 31), none, (.v (.pick (.t 18) (.t 30) (.c (.bool false))))⟩] [[], [], [0, 1], [2], [3], [4], [5], [5], [6, 7, 5], [8, 5], [5], [5], [5], [12, 5], [11, 13, 5], [10, 14, 5], [15, 5], [9, 16, 5], [5, 17]]) (.cond (.t 31) (.seq (.ops [⟨(some 6), none, (.v (.mv (.c (.bool true))))⟩]) .ret) .skip)))) (.ops [⟨(some 32), none, (.v (.bin .add (.t 10) (.c (.int .i64 1))))⟩, ⟨(some 10), none, (.v (.mv (.t 32)))⟩]))))
def a57 : AC := (.seq (.ops [⟨(some 6), none, (.v (.mv (.c (.bool false))))⟩]) (.seq (.seq (.ops [⟨(some 8), none, (.v (.mv (.t 1)))⟩, ⟨(some 9), none, (.v (.bin .shl (.c (.int .i64 1)) (.t 8)))⟩, ⟨(some 10), none, (.v (.mv (.c (.int .i64 0))))⟩]) (.block 0 (.loop a57_0))) (.seq (.ops [⟨(some 6), none, (.v (.mv (.c (.bool false))))⟩]) .ret)))
def r57 : List AI := [(.mv (.t 6))]
theorem f57 : Fn PP 57 3 a57 r57 := Fn.of (fn := Go.Proofs.Try.f57) (by kernel_rfl) (by kernel_rfl) (by kernel_rfl)
def a59 : AC := (.seq (.ops [⟨(some 4), none, (.v (.mv (.c (.bool false))))⟩]) (.seq (.ops [⟨(some 5), none, (.v (.mv (.t 0)))⟩, ⟨(some 6), none, (.v (.mv (.t 1)))⟩, ⟨(some 7), none, (.v (.bin .shr (.t 5) (.t 6)))⟩, ⟨(some 8), none, (.v (.bin .and (.t 7) (.c (.int .u64 1))))⟩, ⟨(some 9), none, (.v (.bin .eql (.t 8) (.c (.int .u64 1))))⟩, ⟨(some 4), none, (.v (.mv (.t 9)))⟩]) .ret))
def r59 : List AI := [(.mv (.t 4))]
theorem f59 : Fn PP 59 2 a59 r59 := Fn.of (fn := Go.Proofs.Try.f59) (by kernel_rfl) (by kernel_rfl) (by kernel_rfl)
def a29_1 : AC := (.seq (.ops [⟨(some 18), none, (.v (.bin .lss (.t 17) (.t 16)))⟩]) (.seq (.cond (.t 18) .skip (.exit 2)) (.seq (.block 3 (.seq (.ops [⟨(some 19), none, (.v (.mv (.t 17)))⟩, ⟨(some 7), none, (.v (.mv (.t 19)))⟩]) (.seq (.any [⟨(some 20), none, (.v (.mv (.t 0)))⟩, ⟨(some 21), none, (.v (.mv (.t 7)))⟩, ⟨(some 22), none, (.call (.c (.fn 59 [])) [(.t 20), (.t 21)])⟩, ⟨(some 23), none, (.v (.mv (.t 0)))⟩, ⟨(some 24), none, (.v (.mv (.t 7)))⟩, ⟨(some 25), none, (.v (.mv (.t 6)))⟩, ⟨(some 26), none, (.v (.bin .shl (.c (.int .i64 1)) (.t 25)))⟩, ⟨(some 27), none, (.v (.bin .xor (.t 24) (.t 26)))⟩, ⟨(some 28), none, (.call (.c (.fn 59 [])) [(.t 23), (.t 27)])⟩, ⟨(some 29), none, (.v (.beq true (.t 22) (.t 28)))⟩] [[], [], [0, 1], [], [], [], [5], [4, 6], [3, 7, 2], [2, 8]]) (.cond (.t 29) (.seq (.ops [⟨(some 30), none, (.v (.mv (.t 5)))⟩, ⟨(some 31), none, (.v (.mv (.t 6)))⟩, ⟨(some 32), none, (.e (.lit 32 3 1 1 [(.int .i64 0)] [(0, (.t 31))]))⟩, ⟨(some 33), none, (.e (.app 33 3 1 8 (.t 30) (.t 32)))⟩, ⟨(some 5), none, (.v (.mv (.t 33)))⟩]) (.exit 2)) .skip)))) (.ops [⟨(some 34), none, (.v (.bin .add (.t 17) (.c (.int .i64 1))))⟩, ⟨(some 17), none, (.v (.mv (.t 34)))⟩]))))
def a29_0 : AC := (.seq (.ops [⟨(some 13), none, (.v (.bin .lss (.t 12) (.t 11)))⟩]) (.seq (.cond (.t 13) .skip (.exit 0)) (.seq (.block 1 (.seq (.ops [⟨(some 14), none, (.v (.mv (.t 12)))⟩, ⟨(some 6), none, (.v (.mv (.t 14)))⟩]) (.seq (.ops [⟨(some 15), none, (.v (.mv (.t 1)))⟩, ⟨(some 16), none, (.v (.bin .shl (.c (.int .i64 1)) (.t 15)))⟩, ⟨(some 17), none, (.v (.mv (.c (.int .i64 0))))⟩]) (.block 2 (.loop a29_1))))) (.ops [⟨(some 35), none, (.v (.bin .add (.t 12) (.c (.int .i64 1))))⟩, ⟨(some 12), none, (.v (.mv (.t 35)))⟩]))))
def a29 : AC := (.seq (.ops [⟨(some 4), none, (.v (.mv (.c .cap0)))⟩]) (.seq (.ops [⟨(some 8), none, (.v (.mv (.t 1)))⟩, ⟨(some 9), none, (.v (.mn (.t 8) (.c (.int .i64 6))))⟩, ⟨(some 1), none, (.v (.mv (.t 9)))⟩]) (.seq (.ops [⟨(some 5), none, (.v (.mv (.c .cap0)))⟩]) (.seq (.seq (.ops [⟨(some 10), none, (.v (.mv (.t 1)))⟩, ⟨(some 11), none, (.v (.mx (.t 10) (.c (.int .i64 0))))⟩, ⟨(some 12), none, (.v (.mv (.c (.int .i64 0))))⟩]) (.block 0 (.loop a29_0))) (.seq (.ops [⟨(some 36), none, (.v (.mv (.t 5)))⟩, ⟨(some 4), none, (.v (.mv (.t 36)))⟩]) .ret)))))
def r29 : List AI := [(.mv (.t 4))]
theorem f29 : Fn PP 29 2 a29 r29 := Fn.of (fn := Go.Proofs.Try.f29) (by kernel_rfl) (by kernel_rfl) (by kernel_rfl)
theorem two_lt : ∀ i, i < 7 → (2 : Int) ^ i ≤ 64 := by decide
theorem two_cast (i : Nat) : ((2 ^ i : Nat) : Int) = (2 : Int) ^ i := by simp
theorem p57 (t : Int) (n i : Nat) (ht : U64 t) (hn : n < 7) (hi : i < n) : Pure PP 57 [.int .u64 t, .int .i64 (n : Nat), .int .i64 (i : Nat)] fun r => ∃ b, r = .bool b ∧ (b = true ↔ depP t n i) := by
  have h64 := p_le n hn
  have e1 := shl_one hn
  have hi64 := p_le i (by omega)
  have e2 := shl_one (n := i) (by omega)
  have k0 : ¬ (n : Int) < 0 := by omega
  have k1 : ¬ (i : Int) < 0 := by omega
  refine Fn.pure fmix f57 ?_
  unfold a57 r57
  simp -implicitDefEqProofs only [vqa, Nat.reduceEqDiff, Nat.reduceAdd, reduceIte, Nat.reduceLeDiff, Nat.reduceBEq, Nat.reduceLT, Nat.reduceSub, Int.reduceLT, Int.reduceLE, Int.reduceEq, Int.reduceToNat, Nat.reduceMul, eq_self, implies_true, forall_const, e1]
  refine ⟨by omega, ?_⟩
  refine vFor (2 ^ n) (fun k e m => e 0 = .int .u64 t ∧ e 1 = .int .i64 (n : Nat) ∧ e 2 = .int .i64 (i : Nat) ∧ e 9 = .int .i64 ((2 ^ n : Nat) : Int) ∧ e 10 = .int .i64 (k : Nat) ∧ ∀ j, j < k → j / 2 ^ i % 2 = 0 → bit t j = bit t (j + 2 ^ i)) ?_ ?_ ?_
  · simp -implicitDefEqProofs only [vqa, Nat.reduceEqDiff, Nat.reduceAdd, reduceIte, Nat.reduceLeDiff, Nat.reduceBEq, Nat.reduceLT, Nat.reduceSub, Int.reduceLT, Int.reduceLE, Int.reduceEq, Int.reduceToNat, Nat.reduceMul, eq_self, implies_true, forall_const]
  · rintro k e m hk hk' ⟨e0, e1', e2', e9, e10, hall⟩
    unfold a57_0
    simp -implicitDefEqProofs only [vqa, Nat.reduceEqDiff, Nat.reduceAdd, reduceIte, Nat.reduceLeDiff, Nat.reduceBEq, Nat.reduceLT, Nat.reduceSub, Int.reduceLT, Int.reduceLE, Int.reduceEq, Int.reduceToNat, Nat.reduceMul, eq_self, implies_true, forall_const, e0, e1', e2', e9, e10, hk']
    refine vAny [0, 1, 2, 3, 4, 5, 6, 7, 8, 9, 10, 11, 12, 13, 14, 15, 16, 17, 18] 19 allL (by kernel_rfl) (by kernel_rfl) ?_
    simp -implicitDefEqProofs only [vqa, Nat.reduceEqDiff, Nat.reduceAdd, reduceIte, Nat.reduceLeDiff, Nat.reduceBEq, Nat.reduceLT, Nat.reduceSub, Int.reduceLT, Int.reduceLE, Int.reduceEq, Int.reduceToNat, Nat.reduceMul, eq_self, implies_true, forall_const, e0, e1', e2', e9, e10, e2]
    have hk64 : k < 64 := by omega
    have hand := shift_and_one_i64 k (by omega) i (by omega)
    rw [hand]
    have hnext : ∀ (q : ¬ (k / 2 ^ i % 2 = 0 ∧ bit t k ≠ bit t (k + 2 ^ i))), ∀ j, j < k + 1 → j / 2 ^ i % 2 = 0 → bit t j = bit t (j + 2 ^ i) := fun q j hj h0 => by
      by_cases e : j < k
      · exact hall j e h0
      · obtain rfl : j = k := by omega
        exact Classical.byContradiction fun hne => q ⟨h0, hne⟩
    refine ⟨by omega, fun hz => ?_, fun hz => ?_⟩
    · have h0 : k / 2 ^ i % 2 = 0 := by
        rcases (by omega : k / 2 ^ i % 2 = 0 ∨ k / 2 ^ i % 2 = 1) with h | h
        · exact h
        · rw [Nat.testBit_eq_decide_div_mod_eq, h] at hz; simp at hz
      have hor : bitop .or .i64 (k : Int) ((2 ^ i : Nat) : Int) = ((k + 2 ^ i : Nat) : Int) := by
        rw [or_i64t (by omega) (by omega), k_or i (by omega) k hk64 h0]
      have hin := k_in n hn i hi k hk h0
      rw [hor, Int.toNat_natCast, shift_and_one ht k hk64, shift_and_one ht (k + 2 ^ i) (by omega)]
      refine ⟨by omega, by omega, Int.natCast_nonneg _, fun hne => ⟨_, rfl, fun _ => ⟨k, hk, h0, fun e => hne (by rw [e])⟩, fun _ => rfl⟩, fun heq => ⟨hk, wI (by omega) (by omega), hnext fun ⟨_, hne⟩ => heq fun e => hne ?_⟩⟩
      revert e
      cases bit t k <;> cases bit t (k + 2 ^ i) <;> simp
    · refine ⟨hk, wI (by omega) (by omega), hnext fun ⟨h0, _⟩ => hz ?_⟩
      rw [Nat.testBit_eq_decide_div_mod_eq, h0]; simp
  · rintro e m ⟨e0, e1', e2', e9, e10, hall⟩
    unfold a57_0
    simp -implicitDefEqProofs only [vqa, Nat.reduceEqDiff, Nat.reduceAdd, reduceIte, Nat.reduceLeDiff, Nat.reduceBEq, Nat.reduceLT, Nat.reduceSub, Int.reduceLT, Int.reduceLE, Int.reduceEq, Int.reduceToNat, Nat.reduceMul, eq_self, implies_true, forall_const, e0, e1', e2', e9, e10]
    refine ⟨_, rfl, fun h => Bool.noConfusion h, fun ⟨j, h1, h2, h3⟩ => absurd (hall j h1 h2) h3⟩

theorem p59 (t : Int) (k : Nat) (ht : U64 t) (hk : k < 64) : Pure PP 59 [.int .u64 t, .int .i64 (k : Nat)] fun r => r = .bool (bit t k) := by
  refine Fn.pure fmix f59 ?_
  unfold a59 r59
  simp -implicitDefEqProofs only [vqa, Nat.reduceEqDiff, Nat.reduceAdd, reduceIte, Nat.reduceLeDiff, Nat.reduceBEq, Nat.reduceLT, Nat.reduceSub, Int.reduceLT, Int.reduceLE, Int.reduceEq, Int.reduceToNat, Nat.reduceMul, eq_self, implies_true, forall_const]
  rw [shift_and_one ht k hk]
  refine ⟨by omega, ?_⟩
  cases bit t k <;> simp
theorem b_ft : (false == true) = false := rfl
theorem b_tf : (true == false) = false := rfl
theorem b_tt : (true == true) = true := rfl
theorem b_ff : (false == false) = true := rfl
theorem ad (T : List Int) (x : Int) : ∀ k, k < T.length → (T ++ [x]).getD k 0 = T.getD k 0 := fun k hk => by
  rw [List.getD_eq_getElem?_getD, List.getElem?_append_left hk, ← List.getD_eq_getElem?_getD]
theorem ad_new (T : List Int) (x : Int) : (T ++ [x]).getD T.length 0 = x := by
  rw [List.getD_eq_getElem?_getD, List.getElem?_append_right (Nat.le_refl _), Nat.sub_self]; rfl
/-- The inputs below i that count. -/
def NdS (t : Int) (n i : Nat) (T : List Int) (v : AV) (m : Mem) : Prop := AccP [33] 3 1 T.length (fun k a => a = .int .i64 (T.getD k 0)) v m ∧ T.length ≤ i ∧ (∀ x, x ∈ T → ∃ j : Nat, j < i ∧ x = (j : Nat) ∧ depP t n j) ∧ ∀ j, j < i → depP t n j → ((j : Nat) : Int) ∈ T
theorem NdS.old {t : Int} {n i : Nat} {T : List Int} {v : AV} {m : Mem} (h : NdS t n i T v m) (hd : ¬ depP t n i) : NdS t n (i + 1) T v m :=
  ⟨h.1, by have := h.2.1; omega, fun x hx => by obtain ⟨j, h1, h2, h3⟩ := h.2.2.1 x hx; exact ⟨j, by omega, h2, h3⟩, fun j hj hp => by
    by_cases e : j < i
    · exact h.2.2.2 j e hp
    · obtain rfl : j = i := by omega
      exact absurd hp hd⟩
theorem NdS.new {t : Int} {n i : Nat} {T : List Int} {v v' : AV} {m m' : Mem} (h : NdS t n i T v m) (hd : depP t n i) (hA : AccP [33] 3 1 (T.length + 1) (fun k a => a = .int .i64 ((T ++ [((i : Nat) : Int)]).getD k 0)) v' m') : NdS t n (i + 1) (T ++ [((i : Nat) : Int)]) v' m' :=
  ⟨by rw [List.length_append]; exact hA, by rw [List.length_append]; have := h.2.1; simp only [List.length_singleton]; omega, fun x hx => by
    rcases List.mem_append.1 hx with hx | hx
    · obtain ⟨j, h1, h2, h3⟩ := h.2.2.1 x hx; exact ⟨j, by omega, h2, h3⟩
    · exact ⟨i, by omega, List.mem_singleton.1 hx, hd⟩, fun j hj hp => by
    by_cases e : j < i
    · exact List.mem_append.2 (.inl (h.2.2.2 j e hp))
    · obtain rfl : j = i := by omega
      exact List.mem_append.2 (.inr (List.mem_singleton.2 rfl))⟩
theorem p29 (t : Int) (n : Nat) (ht : U64 t) (hn : n < 7) : Pure PP 29 [.int .u64 t, .int .i64 (n : Nat)] fun r => ∃ (T : List Int) (f : Nat → AV), r = .fs T.length f ∧ T.length ≤ n ∧ (∀ k, k < T.length → f k = .int .i64 (T.getD k 0)) ∧ ∀ x, x ∈ T ↔ ∃ j : Nat, j < n ∧ x = (j : Nat) ∧ depP t n j := by
  have h64 := p_le n hn
  have e1 := shl_one hn
  refine Fn.pure fmix f29 ?_
  unfold a29 r29
  simp -implicitDefEqProofs only [vqa, Nat.reduceEqDiff, Nat.reduceAdd, reduceIte, Nat.reduceLeDiff, Nat.reduceBEq, Nat.reduceLT, Nat.reduceSub, Int.reduceLT, Int.reduceLE, Int.reduceEq, Int.reduceToNat, Nat.reduceMul, eq_self, implies_true, forall_const]
  have hmn : (if (6 : Int) < (n : Nat) then 6 else ((n : Nat) : Int)) = (n : Nat) := if_neg (by omega)
  have hmx : (if ((n : Nat) : Int) < 0 then 0 else ((n : Nat) : Int)) = (n : Nat) := if_neg (by omega)
  rw [hmn, hmx]
  refine vFor n (fun i e m => e 0 = .int .u64 t ∧ e 1 = .int .i64 (n : Nat) ∧ e 11 = .int .i64 (n : Nat) ∧ e 12 = .int .i64 (i : Nat) ∧ ∃ T, NdS t n i T (e 5) m) ?_ ?_ ?_
  · simp -implicitDefEqProofs only [vqa, Nat.reduceEqDiff, Nat.reduceAdd, reduceIte, Nat.reduceLeDiff, Nat.reduceBEq, Nat.reduceLT, Nat.reduceSub, Int.reduceLT, Int.reduceLE, Int.reduceEq, Int.reduceToNat, Nat.reduceMul, eq_self, implies_true, forall_const, hmn]
    exact ⟨[], .inl ⟨rfl, rfl⟩, Nat.le_refl _, fun x hx => (by cases hx), fun j hj => absurd hj (Nat.not_lt_zero _)⟩
  · rintro i e m hi hi' ⟨e0, e1', e11, e12, T, hN⟩
    have hi64 := p_le i (by omega)
    have e2 := shl_one (n := i) (by omega)
    unfold a29_0
    simp -implicitDefEqProofs only [vqa, Nat.reduceEqDiff, Nat.reduceAdd, reduceIte, Nat.reduceLeDiff, Nat.reduceBEq, Nat.reduceLT, Nat.reduceSub, Int.reduceLT, Int.reduceLE, Int.reduceEq, Int.reduceToNat, Nat.reduceMul, eq_self, implies_true, forall_const, e0, e1', e11, e12, hi', e1]
    generalize hv : e 5 = v at hN
    refine ⟨by omega, ?_⟩
    refine vFor (2 ^ n) (fun k e m => e 0 = .int .u64 t ∧ e 1 = .int .i64 (n : Nat) ∧ e 11 = .int .i64 (n : Nat) ∧ e 12 = .int .i64 (i : Nat) ∧ e 5 = v ∧ e 6 = .int .i64 (i : Nat) ∧ e 16 = .int .i64 ((2 ^ n : Nat) : Int) ∧ e 17 = .int .i64 (k : Nat) ∧ NdS t n i T v m ∧ ∀ j, j < k → bit t j = bit t (j ^^^ 2 ^ i)) ?_ ?_ ?_
    · simp -implicitDefEqProofs only [vqa, Nat.reduceEqDiff, Nat.reduceAdd, reduceIte, Nat.reduceLeDiff, Nat.reduceBEq, Nat.reduceLT, Nat.reduceSub, Int.reduceLT, Int.reduceLE, Int.reduceEq, Int.reduceToNat, Nat.reduceMul, eq_self, implies_true, forall_const]
      exact ⟨e0, e1', e11, e12, hv, hN⟩
    · rintro k e m hk hk' ⟨e0, e1', e11, e12, e5, e6, e16, e17, hN, hall⟩
      have hk64 : k < 64 := by omega
      have hx : bitop .xor .i64 (k : Int) ((2 ^ i : Nat) : Int) = ((k ^^^ 2 ^ i : Nat) : Int) := xor_i64 (by omega) (by omega)
      have hx64 : k ^^^ 2 ^ i < 64 := by
        have := Nat.xor_lt_two_pow (x := k) (y := 2 ^ i) (n := 6) (by omega) (by
          rcases (by omega : i = 0 ∨ i = 1 ∨ i = 2 ∨ i = 3 ∨ i = 4 ∨ i = 5) with rfl | rfl | rfl | rfl | rfl | rfl <;> decide)
        simpa using this
      unfold a29_1
      simp -implicitDefEqProofs only [vqa, Nat.reduceEqDiff, Nat.reduceAdd, reduceIte, Nat.reduceLeDiff, Nat.reduceBEq, Nat.reduceLT, Nat.reduceSub, Int.reduceLT, Int.reduceLE, Int.reduceEq, Int.reduceToNat, Nat.reduceMul, eq_self, implies_true, forall_const, e0, e1', e11, e12, e5, e6, e16, e17, hk']
      refine vAny [0, 1, 3, 4, 5, 6, 7, 2, 8, 9] 10 allL (by kernel_rfl) (by kernel_rfl) ?_
      simp -implicitDefEqProofs only [vqa, Nat.reduceEqDiff, Nat.reduceAdd, reduceIte, Nat.reduceLeDiff, Nat.reduceBEq, Nat.reduceLT, Nat.reduceSub, Int.reduceLT, Int.reduceLE, Int.reduceEq, Int.reduceToNat, Nat.reduceMul, eq_self, implies_true, forall_const, e0, e1', e11, e12, e5, e6, e16, e17, e2, hx]
      refine ⟨by omega, ?_⟩
      refine CallW.sc (p59 t k ht hk64) rfl ⟨trivial, trivial, trivial⟩ fun r hr => ⟨by subst hr; rfl, ?_⟩
      subst hr
      simp -implicitDefEqProofs only [vqa, Nat.reduceEqDiff, Nat.reduceAdd, reduceIte, Nat.reduceLeDiff, Nat.reduceBEq, Nat.reduceLT, Nat.reduceSub, Int.reduceLT, Int.reduceLE, Int.reduceEq, Int.reduceToNat, Nat.reduceMul, eq_self, implies_true, forall_const, e0, e1', e11, e12, e5, e6, e16, e17]
      refine CallW.sc (p59 t (k ^^^ 2 ^ i) ht hx64) rfl ⟨trivial, trivial, trivial⟩ fun r hr => ⟨by subst hr; rfl, ?_⟩
      subst hr
      have same : bit t k = bit t (k ^^^ 2 ^ i) → k < 2 ^ n ∧ IntKind.i64.wrap ((k : Int) + 1) = ((k + 1 : Nat) : Int) ∧ NdS t n i T v m ∧ ∀ j, j < k + 1 → bit t j = bit t (j ^^^ 2 ^ i) := fun hs => ⟨hk, wI (by omega) (by omega), hN, fun j hj => by
        by_cases e : j < k
        · exact hall j e
        · obtain rfl : j = k := by omega
          exact hs⟩
      have diff : bit t k ≠ bit t (k ^^^ 2 ^ i) → depP t n i := fun hne => (depP_iff hn hi).2 ⟨k, hk, hne⟩
      have hN0 := hN
      obtain ⟨hz, hv5⟩ | ⟨s', ver, g, hs', hv5, hm, hg, _⟩ := hN.1
      · have fin : ∀ hd : depP t n i, ∃ T', NdS t n (i + 1) T' (.sl 33 ((m 33).ver + 1) 1) (Mem.set 33 (.row ((m 33).ver + 1) 3 1 1 fun k => [AV.int .i64 ((i : Nat) : Int)].getD k .undef) (Mem.set 32 (.row ((m 32).ver + 1) 3 1 1 fun k => [AV.int .i64 ((i : Nat) : Int)].getD k .undef) m)) := fun hd => by
          refine ⟨_, hN0.new hd ?_⟩
          rw [hz]
          exact AccP.first (by simp) (by rw [show (0 : Nat) = T.length from hz.symm, ad_new])
        simp only [hv5] at e5 same
        cases hA : bit t k <;> cases hB : bit t (k ^^^ 2 ^ i)
        all_goals rw [hA, hB] at same diff
        all_goals simp -implicitDefEqProofs only [vqa, Nat.reduceEqDiff, Nat.reduceAdd, reduceIte, Nat.reduceLeDiff, Nat.reduceBEq, Nat.reduceLT, Nat.reduceSub, Int.reduceLT, Int.reduceLE, Int.reduceEq, Int.reduceToNat, Nat.reduceMul, eq_self, implies_true, forall_const, e0, e1', e11, e12, e5, e6, e16, e17, hv5, Bool.not_true, Bool.not_false, b_ft, b_tf, b_tt, b_ff]
        · exact same rfl
        · exact ⟨hi, wI (by omega) (by omega), fin (diff (by decide))⟩
        · exact ⟨hi, wI (by omega) (by omega), fin (diff (by decide))⟩
        · exact same rfl
      · obtain rfl : s' = 33 := by simpa using hs'
        have fin : ∀ hd : depP t n i, ∃ T', NdS t n (i + 1) T' (.sl 33 (ver + 1) (T.length + 1)) (Mem.set 33 (.row (ver + 1) 3 1 (T.length + 1) fun k => bif decide (k < T.length) then g k else [AV.int .i64 ((i : Nat) : Int)].getD (k - T.length) .undef) (Mem.set 32 (.row ((m 32).ver + 1) 3 1 1 fun k => [AV.int .i64 ((i : Nat) : Int)].getD k .undef) m)) := fun hd => by
          refine ⟨_, hN0.new hd ?_⟩
          exact AccP.push (by simp) (fun j hj => by rw [ad T _ j hj]; exact hg j hj) (by rw [ad_new])
        have hle := hN0.2.1
        simp only [hv5] at e5 same
        cases hA : bit t k <;> cases hB : bit t (k ^^^ 2 ^ i)
        all_goals rw [hA, hB] at same diff
        all_goals simp -implicitDefEqProofs only [vqa, Nat.reduceEqDiff, Nat.reduceAdd, reduceIte, Nat.reduceLeDiff, Nat.reduceBEq, Nat.reduceLT, Nat.reduceSub, Int.reduceLT, Int.reduceLE, Int.reduceEq, Int.reduceToNat, Nat.reduceMul, eq_self, implies_true, forall_const, e0, e1', e11, e12, e5, e6, e16, e17, hv5, hm, Bool.not_true, Bool.not_false, b_ft, b_tf, b_tt, b_ff]
        · exact same rfl
        · exact ⟨⟨by omega, by omega⟩, hi, wI (by omega) (by omega), fin (diff (by decide))⟩
        · exact ⟨⟨by omega, by omega⟩, hi, wI (by omega) (by omega), fin (diff (by decide))⟩
        · exact same rfl
    · rintro e m ⟨e0, e1', e11, e12, e5, e6, e16, e17, hN, hall⟩
      unfold a29_1
      simp -implicitDefEqProofs only [vqa, Nat.reduceEqDiff, Nat.reduceAdd, reduceIte, Nat.reduceLeDiff, Nat.reduceBEq, Nat.reduceLT, Nat.reduceSub, Int.reduceLT, Int.reduceLE, Int.reduceEq, Int.reduceToNat, Nat.reduceMul, eq_self, implies_true, forall_const, e0, e1', e11, e12, e5, e6, e16, e17]
      have hd : ¬ depP t n i := fun h => by
        obtain ⟨k, h1, h2⟩ := (depP_iff hn hi).1 h
        exact h2 (hall k h1)
      exact ⟨hi, wI (by omega) (by omega), T, hN.old hd⟩
  · rintro e m ⟨e0, e1', e11, e12, T, hA, hl, hT1, hT2⟩
    unfold a29_0
    simp -implicitDefEqProofs only [vqa, Nat.reduceEqDiff, Nat.reduceAdd, reduceIte, Nat.reduceLeDiff, Nat.reduceBEq, Nat.reduceLT, Nat.reduceSub, Int.reduceLT, Int.reduceLE, Int.reduceEq, Int.reduceToNat, Nat.reduceMul, eq_self, implies_true, forall_const, e0, e1', e11, e12]
    obtain ⟨hz, hv⟩ | ⟨s', ver, g, hs', hv, hm, hg, _⟩ := hA
    · simp -implicitDefEqProofs only [vqa, Nat.reduceEqDiff, Nat.reduceAdd, reduceIte, Nat.reduceLeDiff, Nat.reduceBEq, Nat.reduceLT, Nat.reduceSub, Int.reduceLT, Int.reduceLE, Int.reduceEq, Int.reduceToNat, Nat.reduceMul, eq_self, implies_true, forall_const, hv]
      exact ⟨T, fun _ => .undef, by rw [hz], hl, fun k hk => by omega, fun x => ⟨hT1 x, fun ⟨j, h1, h2, h3⟩ => h2 ▸ hT2 j h1 h3⟩⟩
    · obtain rfl : s' = 33 := by simpa using hs'
      simp -implicitDefEqProofs only [vqa, Nat.reduceEqDiff, Nat.reduceAdd, reduceIte, Nat.reduceLeDiff, Nat.reduceBEq, Nat.reduceLT, Nat.reduceSub, Int.reduceLT, Int.reduceLE, Int.reduceEq, Int.reduceToNat, Nat.reduceMul, eq_self, implies_true, forall_const, hv, hm]
      exact ⟨T, g, rfl, hl, hg, fun x => ⟨hT1 x, fun ⟨j, h1, h2, h3⟩ => h2 ▸ hT2 j h1 h3⟩⟩
end Go.Ab
