/- Walks: Var, Cofactor, Fixed. -/
import Derived.Test.YtiecnmojbdogfaaSaCut0
set_option linter.unusedSimpArgs false
set_option linter.unusedVariables false
namespace Go.Ab
open Go
def a9 : AC := (.seq (.ops [⟨(some 3), none, (.v (.mv (.c (.bool false))))⟩]) (.seq (.ops [⟨(some 4), none, (.v (.mv (.t 0)))⟩, ⟨(some 5), none, (.v (.load 1 false (.t 1)))⟩, ⟨(some 6), none, (.v (.idx 1 (.t 4) (.t 5)))⟩, ⟨(some 7), none, (.v (.load 1 false (.t 6)))⟩, ⟨(some 3), none, (.v (.mv (.t 7)))⟩]) .ret))
def r9 : List AI := [(.mv (.t 3))]
theorem f9 : Fn PP 9 2 a9 r9 := Fn.of (fn := Go.Proofs.Try.f9) (by kernel_rfl) (by kernel_rfl) (by kernel_rfl)
def a32 : AC := (.seq (.ops [⟨(some 5), none, (.v (.mv (.c (.bool false))))⟩]) (.seq (.ops [⟨(some 6), none, (.v (.mv (.t 0)))⟩, ⟨(some 7), none, (.v (.load 1 false (.t 2)))⟩, ⟨(some 8), none, (.v (.load 1 false (.t 1)))⟩, ⟨(some 9), none, (.v (.idx 1 (.t 6) (.t 7)))⟩, ⟨none, none, (.e (.store 1 (.t 9) (.t 8)))⟩]) (.seq (.any [⟨(some 10), none, (.v (.load 1 false (.t 3)))⟩, ⟨(some 11), none, (.v (.mv (.t 0)))⟩, ⟨(some 12), none, (.call (.c (.fn 34 [])) [(.t 11)])⟩, ⟨(some 13), none, (.call (.c (.fn 33 [])) [(.t 10), (.t 12)])⟩, ⟨(some 5), none, (.v (.mv (.t 13)))⟩] [[], [], [1], [0, 2, 2], [3, 3, 0, 1, 2, 3]]) .ret)))
def r32 : List AI := [(.mv (.t 5))]
theorem f32 : Fn PP 32 4 a32 r32 := Fn.of (fn := Go.Proofs.Try.f32) (by kernel_rfl) (by kernel_rfl) (by kernel_rfl)
def a11_0 : AC := (.seq (.ops [⟨(some 12), none, (.v (.bin .lss (.t 11) (.c (.int .i64 64))))⟩]) (.seq (.cond (.t 12) .skip (.exit 0)) (.seq (.block 1 (.seq (.ops [⟨(some 13), none, (.v (.mv (.t 11)))⟩, ⟨(some 4), none, (.v (.mv (.t 13)))⟩]) (.ops [⟨(some 14), none, (.v (.mv (.t 3)))⟩, ⟨(some 15), none, (.v (.mv (.t 4)))⟩, ⟨(some 16), none, (.v (.mv (.t 0)))⟩, ⟨(some 17), none, (.v (.bin .shr (.t 15) (.t 16)))⟩, ⟨(some 18), none, (.v (.bin .and (.t 17) (.c (.int .i64 1))))⟩, ⟨(some 19), none, (.v (.conv .u64 (.t 18)))⟩, ⟨(some 20), none, (.v (.mv (.t 4)))⟩, ⟨(some 21), none, (.v (.bin .shl (.t 19) (.t 20)))⟩, ⟨(some 22), none, (.v (.bin .or (.t 14) (.t 21)))⟩, ⟨(some 3), none, (.v (.mv (.t 22)))⟩]))) (.ops [⟨(some 23), none, (.v (.bin .add (.t 11) (.c (.int .i64 1))))⟩, ⟨(some 11), none, (.v (.mv (.t 23)))⟩]))))
def a11 : AC := (.seq (.ops [⟨(some 2), none, (.v (.mv (.c (.int .u64 0))))⟩]) (.seq (.seq (.ops [⟨(some 5), none, (.v (.mv (.t 0)))⟩, ⟨(some 6), none, (.v (.bin .lss (.t 5) (.c (.int .i64 0))))⟩, ⟨(some 7), none, (.v (.mv (.t 6)))⟩, ⟨(some 8), (some (7, false)), (.v (.mv (.t 0)))⟩, ⟨(some 9), (some (7, false)), (.v (.bin .geq (.t 8) (.c (.int .i64 6))))⟩, ⟨(some 10), none, (.v (.pick (.t 7) (.c (.bool true)) (.t 9)))⟩]) (.cond (.t 10) (.seq (.ops [⟨(some 2), none, (.v (.mv (.c (.int .u64 0))))⟩]) .ret) .skip)) (.seq (.ops [⟨(some 3), none, (.v (.mv (.c (.int .u64 0))))⟩]) (.seq (.seq (.ops [⟨(some 11), none, (.v (.mv (.c (.int .i64 0))))⟩]) (.block 0 (.loop a11_0))) (.seq (.ops [⟨(some 24), none, (.v (.mv (.t 3)))⟩, ⟨(some 2), none, (.v (.mv (.t 24)))⟩]) .ret)))))
def r11 : List AI := [(.mv (.t 2))]
theorem f11 : Fn PP 11 1 a11 r11 := Fn.of (fn := Go.Proofs.Try.f11) (by kernel_rfl) (by kernel_rfl) (by kernel_rfl)
def a12 : AC := (.seq (.ops [⟨(some 6), none, (.v (.mv (.c (.int .u64 0))))⟩]) (.seq (.ops [⟨(some 9), none, (.v (.mv (.t 1)))⟩, ⟨(some 10), none, (.call (.c (.fn 11 [])) [(.t 9)])⟩, ⟨(some 7), none, (.v (.mv (.t 10)))⟩]) (.seq (.seq (.ops [⟨(some 11), none, (.v (.mv (.t 7)))⟩, ⟨(some 12), none, (.v (.bin .eql (.t 11) (.c (.int .u64 0))))⟩]) (.cond (.t 12) (.seq (.ops [⟨(some 13), none, (.v (.mv (.t 0)))⟩, ⟨(some 6), none, (.v (.mv (.t 13)))⟩]) .ret) .skip)) (.seq (.ops [⟨(some 14), none, (.v (.mv (.t 1)))⟩, ⟨(some 15), none, (.v (.bin .shl (.c (.int .i64 1)) (.t 14)))⟩, ⟨(some 8), none, (.v (.mv (.t 15)))⟩]) (.seq (.seq (.ops [⟨(some 16), none, (.v (.mv (.t 2)))⟩]) (.cond (.t 16) (.seq (.ops [⟨(some 17), none, (.v (.mv (.t 0)))⟩, ⟨(some 18), none, (.v (.mv (.t 7)))⟩, ⟨(some 19), none, (.v (.bin .and (.t 17) (.t 18)))⟩, ⟨(some 0), none, (.v (.mv (.t 19)))⟩]) (.seq (.ops [⟨(some 20), none, (.v (.mv (.t 0)))⟩, ⟨(some 21), none, (.v (.mv (.t 0)))⟩, ⟨(some 22), none, (.v (.mv (.t 8)))⟩, ⟨(some 23), none, (.v (.bin .shr (.t 21) (.t 22)))⟩, ⟨(some 24), none, (.v (.bin .or (.t 20) (.t 23)))⟩, ⟨(some 6), none, (.v (.mv (.t 24)))⟩]) .ret)) .skip)) (.seq (.ops [⟨(some 25), none, (.v (.mv (.t 0)))⟩, ⟨(some 26), none, (.v (.mv (.t 7)))⟩, ⟨(some 27), none, (.v (.bin .andNot (.t 25) (.t 26)))⟩, ⟨(some 0), none, (.v (.mv (.t 27)))⟩]) (.seq (.ops [⟨(some 28), none, (.v (.mv (.t 0)))⟩, ⟨(some 29), none, (.v (.mv (.t 0)))⟩, ⟨(some 30), none, (.v (.mv (.t 8)))⟩, ⟨(some 31), none, (.v (.bin .shl (.t 29) (.t 30)))⟩, ⟨(some 32), none, (.v (.bin .or (.t 28) (.t 31)))⟩, ⟨(some 6), none, (.v (.mv (.t 32)))⟩]) .ret)))))))
def r12 : List AI := [(.mv (.t 6))]
theorem f12 : Fn PP 12 3 a12 r12 := Fn.of (fn := Go.Proofs.Try.f12) (by kernel_rfl) (by kernel_rfl) (by kernel_rfl)
def a13 : AC := (.seq (.ops [⟨(some 3), none, (.e (.box 3 0 (.t 0)))⟩, ⟨(some 4), none, (.e (.box 4 0 (.t 1)))⟩, ⟨(some 5), none, (.e (.box 5 0 (.t 2)))⟩, ⟨(some 6), none, (.v (.mv (.c (.int .u64 0))))⟩]) (.seq (.seq (.ops [⟨(some 7), none, (.v (.load 1 false (.t 4)))⟩, ⟨(some 8), none, (.v (.bin .lss (.t 7) (.c (.int .i64 0))))⟩, ⟨(some 9), none, (.v (.mv (.t 8)))⟩, ⟨(some 10), (some (9, false)), (.v (.load 1 false (.t 4)))⟩, ⟨(some 11), (some (9, false)), (.v (.bin .gtr (.t 10) (.c (.int .i64 5))))⟩, ⟨(some 12), none, (.v (.pick (.t 9) (.c (.bool true)) (.t 11)))⟩]) (.cond (.t 12) (.seq (.ops [⟨(some 13), none, (.v (.load 1 false (.t 3)))⟩, ⟨(some 6), none, (.v (.mv (.t 13)))⟩]) .ret) .skip)) (.seq (.ops [⟨(some 14), none, (.v (.mkfn 32 [(.t 5), (.t 4), (.t 3)]))⟩, ⟨(some 15), none, (.call (.c (.fn 8 [])) [(.c (.int .i64 6)), (.t 14)])⟩, ⟨(some 6), none, (.v (.mv (.t 15)))⟩]) .ret)))
def r13 : List AI := [(.mv (.t 6))]
theorem f13 : Fn PP 13 3 a13 r13 := Fn.of (fn := Go.Proofs.Try.f13) (by kernel_rfl) (by kernel_rfl) (by kernel_rfl)
theorem p9f (b : Nat) {mem : Mem} {o v i : Nat} (hi : i < 6) (hm : mem o = .var v [.int .i64 (i : Nat)]) : Fills b 6 9 [.ptr o v 0] (fun k => k.testBit i) (fun q => q = o) mem := fun k hk m x hJ hA => by
  have mo := (hJ o rfl).trans hm
  rcases hA with ⟨hz, _⟩ | ⟨ver, g, rfl, hr, hg⟩
  · omega
  refine Fn.call fmix f9 ?_
  unfold a9 r9
  simp -implicitDefEqProofs only [vqa, Nat.reduceEqDiff, Nat.reduceAdd, reduceIte, Nat.reduceLeDiff, Nat.reduceBEq, Nat.reduceLT, Nat.reduceSub, Int.reduceLT, Int.reduceLE, Int.reduceEq, Int.reduceToNat, Nat.reduceMul, eq_self, implies_true, forall_const, mo, hr, hg i hi]
  exact ⟨⟨by omega, by omega⟩, hi, hJ⟩
theorem p32f (b : Nat) {mem : Mem} {o1 o2 o3 v1 v2 v3 i : Nat} {z : Bool} {t : Int} (ht : U64 t) (hi : i < 6) (h1 : o1 < b) (h2 : o2 < b) (h3 : o3 < b) (m1 : mem o1 = .var v1 [.bool z]) (m2 : mem o2 = .var v2 [.int .i64 (i : Nat)]) (m3 : mem o3 = .var v3 [.int .u64 t]) :
    Fills b 6 32 [.ptr o1 v1 0, .ptr o2 v2 0, .ptr o3 v3 0] (fun k => bit t (setb k i z)) (fun q => q = o1 ∨ q = o2 ∨ q = o3) mem := fun k hk m x hJ hA => by
  have n1 := (hJ o1 (.inl rfl)).trans m1
  have n2 := (hJ o2 (.inr (.inl rfl))).trans m2
  have n3 := (hJ o3 (.inr (.inr rfl))).trans m3
  rcases hA with ⟨hz, _⟩ | ⟨ver, g, rfl, hr, hg⟩
  · omega
  have d3 : (o3 = b + 15) = False := eq_false (by omega)
  refine Fn.call fmix f32 ?_
  unfold a32 r32
  simp -implicitDefEqProofs only [vqa, Nat.reduceEqDiff, Nat.reduceAdd, reduceIte, Nat.reduceLeDiff, Nat.reduceBEq, Nat.reduceLT, Nat.reduceSub, Int.reduceLT, Int.reduceLE, Int.reduceEq, Int.reduceToNat, Nat.reduceMul, eq_self, implies_true, forall_const, n1, n2, n3, hr, hg i hi]
  refine ⟨⟨by omega, by omega⟩, hi, ?_⟩
  refine vAny [0, 1, 2, 3, 4] 5 allL (by kernel_rfl) (by kernel_rfl) ?_
  simp -implicitDefEqProofs only [vqa, Nat.reduceEqDiff, Nat.reduceAdd, reduceIte, Nat.reduceLeDiff, Nat.reduceBEq, Nat.reduceLT, Nat.reduceSub, Int.reduceLT, Int.reduceLE, Int.reduceEq, Int.reduceToNat, Nat.reduceMul, eq_self, implies_true, forall_const, n1, n2, n3, d3]
  have hrow : ∀ j, j < 6 → (bif decide (j = i) then AV.bool z else g j) = .bool (if j = i then z else k.testBit j) := fun j hj => by
    by_cases e : j = i
    · subst e; simp
    · simp only [e, decide_false, cond_false, if_false]; exact hg j hj
  refine CallW.sc (p34 6 (by decide) (fun q => if q = i then z else k.testBit q) (fun j => bif decide (j = i) then .bool z else g j) hrow) ?_ ?_ fun r hr => ⟨by subst hr; rfl, ?_⟩
  · simp only [rsC, rs2, rs1, rs0, vqa, Nat.reduceEqDiff, Nat.reduceAdd, reduceIte, Nat.reduceLeDiff, Nat.reduceBEq, Nat.reduceLT, Nat.reduceSub, Int.reduceLT, Int.reduceLE, Int.reduceEq, Int.reduceToNat, Nat.reduceMul, eq_self, implies_true, forall_const]
  · simp only [rsC, rs2, rs1, rs0, vqa, Nat.reduceEqDiff, Nat.reduceAdd, reduceIte, Nat.reduceLeDiff, Nat.reduceBEq, Nat.reduceLT, Nat.reduceSub, Int.reduceLT, Int.reduceLE, Int.reduceEq, Int.reduceToNat, Nat.reduceMul, eq_self, implies_true, forall_const]
  subst hr
  simp -implicitDefEqProofs only [vqa, Nat.reduceEqDiff, Nat.reduceAdd, reduceIte, Nat.reduceLeDiff, Nat.reduceBEq, Nat.reduceLT, Nat.reduceSub, Int.reduceLT, Int.reduceLE, Int.reduceEq, Int.reduceToNat, Nat.reduceMul, eq_self, implies_true, forall_const, n1, n2, n3, d3]
  refine CallW.sc (p33 t (setb k i z) ht (setb_lt k i z)) rfl ⟨trivial, trivial, trivial⟩ fun r hr => ⟨by subst hr; rfl, ?_⟩
  subst hr
  simp -implicitDefEqProofs only [vqa, Nat.reduceEqDiff, Nat.reduceAdd, reduceIte, Nat.reduceLeDiff, Nat.reduceBEq, Nat.reduceLT, Nat.reduceSub, Int.reduceLT, Int.reduceLE, Int.reduceEq, Int.reduceToNat, Nat.reduceMul, eq_self, implies_true, forall_const, n1, n2, n3, d3]
  exact fun q hq => by rw [if_neg (by rcases hq with rfl | rfl | rfl <;> omega)]; exact hJ q hq
/-- The table of an input. -/
theorem p11 (i : Int) : Pure PP 11 [.int .i64 i] fun r => ∃ t, r = .int .u64 t ∧ U64 t ∧ (i < 0 ∨ 6 ≤ i → t = 0) ∧ ∀ q : Nat, q < 6 → i = q → ∀ j, j < 64 → bit t j = j.testBit q := by
  refine Fn.pure fmix f11 ?_
  unfold a11 r11
  simp -implicitDefEqProofs only [vqa, Nat.reduceEqDiff, Nat.reduceAdd, reduceIte, Nat.reduceLeDiff, Nat.reduceBEq, Nat.reduceLT, Nat.reduceSub, Int.reduceLT, Int.reduceLE, Int.reduceEq, Int.reduceToNat, Nat.reduceMul, eq_self, implies_true, forall_const]
  refine ⟨fun h0 => ⟨fun h1 => ⟨0, rfl, ⟨by decide, by decide⟩, fun _ => rfl, fun q hq e => by omega⟩, fun h1 => ?_⟩, fun h0 => ⟨0, rfl, ⟨by decide, by decide⟩, fun _ => rfl, fun q hq e => by omega⟩⟩
  obtain ⟨q, rfl⟩ : ∃ q : Nat, i = (q : Int) := ⟨i.toNat, by omega⟩
  have hq : q < 6 := by omega
  refine vFor 64 (fun k e m => e 0 = .int .i64 q ∧ e 11 = .int .i64 k ∧ ∃ t, e 3 = .int .u64 t ∧ U64 t ∧ ∀ j, j < 64 → bit t j = (decide (j < k) && j.testBit q)) ?_ ?_ ?_
  · simp -implicitDefEqProofs only [vqa, Nat.reduceEqDiff, Nat.reduceAdd, reduceIte, Nat.reduceLeDiff, Nat.reduceBEq, Nat.reduceLT, Nat.reduceSub, Int.reduceLT, Int.reduceLE, Int.reduceEq, Int.reduceToNat, Nat.reduceMul, eq_self, implies_true, forall_const]
    exact ⟨0, rfl, ⟨by decide, by decide⟩, fun j _ => bit_zero j⟩
  · rintro k e m hk hk' ⟨h0, h11, t, h3, ht, hb⟩
    have hk3 : (k : Int) < 64 := by omega
    have ha := and_bit k hk q hq
    unfold a11_0
    cases hc : k.testBit q with
    | true =>
      rw [hc, if_pos rfl] at ha
      simp -implicitDefEqProofs only [vqa, Nat.reduceEqDiff, Nat.reduceAdd, reduceIte, Nat.reduceLeDiff, Nat.reduceBEq, Nat.reduceLT, Nat.reduceSub, Int.reduceLT, Int.reduceLE, Int.reduceEq, Int.reduceToNat, Nat.reduceMul, eq_self, implies_true, forall_const, h0, h11, h3, hk3, ha, show IntKind.u64.wrap 1 = 1 from rfl, shl_pow hk]
      exact ⟨by omega, by omega, hk, wI (by omega) (by omega), _, rfl, u64_or _ _, fill_step (c := fun j => j.testBit q) hk hb hc⟩
    | false =>
      rw [hc, if_neg (by simp)] at ha
      have hz : IntKind.u64.wrap (0 * 2 ^ min k 64) = 0 := by rw [Int.zero_mul]; rfl
      simp -implicitDefEqProofs only [vqa, Nat.reduceEqDiff, Nat.reduceAdd, reduceIte, Nat.reduceLeDiff, Nat.reduceBEq, Nat.reduceLT, Nat.reduceSub, Int.reduceLT, Int.reduceLE, Int.reduceEq, Int.reduceToNat, Nat.reduceMul, eq_self, implies_true, forall_const, h0, h11, h3, hk3, ha, show IntKind.u64.wrap 0 = 0 from rfl, hz]
      exact ⟨by omega, by omega, hk, wI (by omega) (by omega), _, rfl, u64_or _ _, fun j hj => by rw [bit_or, bit_zero, Bool.or_false]; exact fill_skip (c := fun j => j.testBit q) hb hc j hj⟩
  · rintro e m ⟨h0, h11, t, h3, ht, hb⟩
    have h11' : e 11 = .int .i64 64 := h11
    unfold a11_0
    simp -implicitDefEqProofs only [vqa, Nat.reduceEqDiff, Nat.reduceAdd, reduceIte, Nat.reduceLeDiff, Nat.reduceBEq, Nat.reduceLT, Nat.reduceSub, Int.reduceLT, Int.reduceLE, Int.reduceEq, Int.reduceToNat, Nat.reduceMul, eq_self, implies_true, forall_const, h0, h11', h3]
    exact ⟨t, rfl, ht, fun h => by omega, fun p hp e j hj => by
      obtain rfl : q = p := by omega
      rw [hb j hj]; simp [hj]⟩
/-- A table with an input fixed. -/
def CofT (t s i : Int) (v : Bool) : Prop := U64 s ∧ (i < 0 ∨ 6 ≤ i → s = t) ∧ ∀ q : Nat, q < 6 → i = q → ∀ j, j < 64 → bit s j = bit t (setb j q v)
theorem CofT.eq {t s s' i : Int} {v : Bool} (h : CofT t s i v) (k : CofT t s' i v) : s = s' := by
  by_cases e : i < 0 ∨ 6 ≤ i
  · rw [h.2.1 e, k.2.1 e]
  · exact u64_ext h.1 k.1 fun j hj => by rw [h.2.2 i.toNat (by omega) (by omega) j hj, k.2.2 i.toNat (by omega) (by omega) j hj]
theorem p12 (t i : Int) (v : Bool) (ht : U64 t) : Pure PP 12 [.int .u64 t, .int .i64 i, .bool v] fun r => ∃ s, r = .int .u64 s ∧ CofT t s i v := by
  refine Fn.pure fmix f12 ?_
  unfold a12 r12
  simp -implicitDefEqProofs only [vqa, Nat.reduceEqDiff, Nat.reduceAdd, reduceIte, Nat.reduceLeDiff, Nat.reduceBEq, Nat.reduceLT, Nat.reduceSub, Int.reduceLT, Int.reduceLE, Int.reduceEq, Int.reduceToNat, Nat.reduceMul, eq_self, implies_true, forall_const]
  refine CallW.sc (p11 i) rfl ⟨trivial, trivial⟩ fun r ⟨m, hr, hm, hm0, hmb⟩ => ⟨by subst hr; rfl, ?_⟩
  subst hr
  simp -implicitDefEqProofs only [vqa, Nat.reduceEqDiff, Nat.reduceAdd, reduceIte, Nat.reduceLeDiff, Nat.reduceBEq, Nat.reduceLT, Nat.reduceSub, Int.reduceLT, Int.reduceLE, Int.reduceEq, Int.reduceToNat, Nat.reduceMul, eq_self, implies_true, forall_const]
  refine ⟨fun e => ?_, fun e => ?_⟩
  · subst e
    refine ⟨t, rfl, ht, fun _ => rfl, fun q hq hi j hj => ?_⟩
    have := hmb q hq hi (2 ^ q) (by
      have := Nat.pow_le_pow_right (n := 2) (by decide) (show q ≤ 5 by omega)
      omega)
    rw [bit_zero, Nat.testBit_two_pow_self] at this
    cases this
  · have hin : ¬ (i < 0 ∨ 6 ≤ i) := fun h => e (hm0 h)
    obtain ⟨q, rfl⟩ : ∃ q : Nat, i = (q : Int) := ⟨i.toNat, by omega⟩
    have hq : q < 6 := by omega
    have hmq := hmb q hq rfl
    have hs := shl_one (show q < 7 by omega)
    have h32 : 2 ^ q ≤ 32 := by
      have := Nat.pow_le_pow_right (n := 2) (by decide) (show q ≤ 5 by omega)
      simpa using this
    cases v with
    | true =>
      simp -implicitDefEqProofs only [vqa, Nat.reduceEqDiff, Nat.reduceAdd, reduceIte, Nat.reduceLeDiff, Nat.reduceBEq, Nat.reduceLT, Nat.reduceSub, Int.reduceLT, Int.reduceLE, Int.reduceEq, Int.reduceToNat, Nat.reduceMul, eq_self, implies_true, forall_const, hs]
      refine ⟨by omega, Int.natCast_nonneg _, _, rfl, u64_or _ _, fun h => absurd h hin, fun q' hq' he j hj => ?_⟩
      obtain rfl : q = q' := by omega
      rw [bit_or, bit_and, hmq j hj, bit_shr' (u64_and _ _) _ hj, setb_t j hj q hq]
      cases hb : j.testBit q with
      | true =>
        rw [if_pos rfl, Bool.and_true]
        by_cases hl : 2 ^ q + j < 64
        · rw [bit_and, hmq _ hl, Nat.add_comm, plus_bit j hj q hq (by omega), hb]; simp
        · rw [bit_out (k := 2 ^ q + j) _ (by omega)]; simp
      | false =>
        have hl := low_lt j hj q hq hb
        rw [if_neg (by simp), Bool.and_false, Bool.false_or, bit_and, hmq _ (by omega), Nat.add_comm, plus_bit j hj q hq hl, hb]; simp
    | false =>
      simp -implicitDefEqProofs only [vqa, Nat.reduceEqDiff, Nat.reduceAdd, reduceIte, Nat.reduceLeDiff, Nat.reduceBEq, Nat.reduceLT, Nat.reduceSub, Int.reduceLT, Int.reduceLE, Int.reduceEq, Int.reduceToNat, Nat.reduceMul, eq_self, implies_true, forall_const, hs]
      refine ⟨by omega, Int.natCast_nonneg _, _, rfl, u64_or _ _, fun h => absurd h hin, fun q' hq' he j hj => ?_⟩
      obtain rfl : q = q' := by omega
      rw [bit_or, bit_andNot _ _ _ hj, hmq j hj, bit_shl (u64_andNot _ _) (by omega) hj, setb_f j hj q hq]
      cases hb : j.testBit q with
      | true =>
        have hl := high_le j hj q hq hb
        rw [if_pos rfl, bit_andNot _ _ _ (Nat.lt_of_le_of_lt (Nat.sub_le j (2 ^ q)) hj), hmq _ (Nat.lt_of_le_of_lt (Nat.sub_le j (2 ^ q)) hj), minus_bit j hj q hq hl, hb]; simp [hl]
      | false =>
        rw [if_neg (by simp)]
        by_cases hl : 2 ^ q ≤ j
        · rw [bit_andNot _ _ _ (Nat.lt_of_le_of_lt (Nat.sub_le j (2 ^ q)) hj), hmq _ (Nat.lt_of_le_of_lt (Nat.sub_le j (2 ^ q)) hj), minus_bit j hj q hq hl, hb]; simp
        · simp [hl]
theorem p13 (t i : Int) (v : Bool) (ht : U64 t) : Pure PP 13 [.int .u64 t, .int .i64 i, .bool v] fun r => ∃ s, r = .int .u64 s ∧ CofT t s i v := by
  refine Fn.pure fmix f13 ?_
  unfold a13 r13
  simp -implicitDefEqProofs only [vqa, Nat.reduceEqDiff, Nat.reduceAdd, reduceIte, Nat.reduceLeDiff, Nat.reduceBEq, Nat.reduceLT, Nat.reduceSub, Int.reduceLT, Int.reduceLE, Int.reduceEq, Int.reduceToNat, Nat.reduceMul, eq_self, implies_true, forall_const]
  refine ⟨fun h0 => ⟨fun h1 => ⟨t, rfl, ht, fun _ => rfl, fun q hq e => by omega⟩, fun h1 => ?_⟩, fun h0 => ⟨t, rfl, ht, fun _ => rfl, fun q hq e => by omega⟩⟩
  obtain ⟨q, rfl⟩ : ∃ q : Nat, i = (q : Int) := ⟨i.toNat, by omega⟩
  have hq : q < 6 := by omega
  generalize (mem0 3).ver + 1 = V3
  generalize (mem0 4).ver + 1 = V4
  generalize (mem0 5).ver + 1 = V5
  refine (p8 1000 6 (by decide) (J := fun o => o = 5 ∨ o = 4 ∨ o = 3) (fun o ho => by rcases ho with rfl | rfl | rfl <;> decide) (p32f 1000 (z := v) ht hq (by decide) (by decide) (by decide) (set_same _ _ _) ((set_ne (by decide) _ _).trans (set_same _ _ _)) ((set_ne (by decide) _ _).trans ((set_ne (by decide) _ _).trans (set_same _ _ _))))).mono fun r m ⟨⟨s, hr, hs, hb⟩, hm⟩ => ?_
  subst hr
  simp -implicitDefEqProofs only [vqa, Nat.reduceEqDiff, Nat.reduceAdd, reduceIte, Nat.reduceLeDiff, Nat.reduceBEq, Nat.reduceLT, Nat.reduceSub, Int.reduceLT, Int.reduceLE, Int.reduceEq, Int.reduceToNat, Nat.reduceMul, eq_self, implies_true, forall_const]
  exact ⟨s, rfl, hs, fun h => by omega, fun p hp e j hj => by
    obtain rfl : q = p := by omega
    rw [hb j hj]; simp [hj]⟩
end Go.Ab
