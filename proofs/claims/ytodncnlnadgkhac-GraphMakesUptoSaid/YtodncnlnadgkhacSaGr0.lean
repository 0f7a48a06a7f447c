/- Walk: graphs() is true. -/
import Derived.Test.YtodncnlnadgkhacSaGraph
import Derived.Test.YtodncnlnadgkhacSaMakX
set_option linter.unusedSimpArgs false
set_option linter.unusedVariables false
namespace Go.Ab
open Go
def a9 : AC := (.seq (.ops [⟨(some 0), none, (.v (.mv (.c (.bool false))))⟩]) (.seq (.ops [⟨(some 2), none, (.e (.lit 2 9 1 2 [(.str ⟨#[]⟩)] [(0, (.c (.str ⟨#[97]⟩))), (1, (.c (.str ⟨#[98]⟩)))]))⟩, ⟨(some 3), none, (.call (.c (.fn 8 [])) [(.t 2), (.c .cap0)])⟩, ⟨(some 1), none, (.v (.mv (.t 3)))⟩]) (.seq (.ops [⟨(some 4), none, (.v (.mv (.t 1)))⟩, ⟨(some 5), none, (.v (.pnil true (.t 4)))⟩, ⟨(some 6), none, (.v (.mv (.t 5)))⟩, ⟨(some 7), (some (6, true)), (.v (.mv (.t 1)))⟩, ⟨(some 8), (some (6, true)), (.v (.mv (.t 1)))⟩, ⟨(some 9), (some (6, true)), (.call (.c (.fn 11 [])) [(.t 8), (.c (.int .i64 0))])⟩, ⟨(some 10), (some (6, true)), (.v (.mv (.t 1)))⟩, ⟨(some 11), (some (6, true)), (.call (.c (.fn 11 [])) [(.t 10), (.c (.int .i64 1))])⟩, ⟨(some 12), (some (6, true)), (.call (.c (.fn 26 [])) [(.t 7), (.t 9), (.t 11)])⟩, ⟨(some 13), (some (6, true)), (.v (.bin .eql (.t 12) (.c (.int .i64 11))))⟩, ⟨(some 14), none, (.v (.pick (.t 6) (.t 13) (.c (.bool false))))⟩, ⟨(some 15), none, (.v (.mv (.t 14)))⟩, ⟨(some 16), (some (15, true)), (.e (.lit 16 9 1 1 [(.str ⟨#[]⟩)] [(0, (.c (.str ⟨#[111]⟩)))]))⟩, ⟨(some 17), (some (15, true)), (.v (.build [.cap0, .cap0, .cap0, .cap0, .cap0] [(1, (1, (.t 16)))]))⟩, ⟨(some 18), (some (15, true)), (.call (.c (.fn 42 [])) [(.t 17)])⟩, ⟨(some 19), (some (15, true)), (.v (.bin .eql (.t 18) (.c (.int .i64 4))))⟩, ⟨(some 20), none, (.v (.pick (.t 15) (.t 19) (.c (.bool false))))⟩, ⟨(some 0), none, (.v (.mv (.t 20)))⟩]) .ret)))
def r9 : List AI := [(.mv (.t 0))]
theorem f9 : Fn PP 9 0 a9 r9 := Fn.of (fn := Go.Proofs.Try.f9) (by kernel_rfl) (by kernel_rfl) (by kernel_rfl)
def newX : Mak := ((newM 2 0).xorF 2 4).2
theorem newX_val : ((newM 2 0).xorF 2 4).1 = 11 := by decide +kernel
def emptyG : Gra := ⟨0, fun _ => default, 1, fun _ => ⟨#[111]⟩, 0, fun _ => default, 0, fun _ => 0, fun _ => 0, 0, fun _ => 0⟩
theorem emptyG_F : graphF emptyG = 4 := by
  unfold graphF
  rw [if_neg (by decide), if_pos (by decide)]
theorem emptyG_ok : emptyG.Ok := ⟨by decide, by decide, by decide, by decide, by decide, fun i hi => absurd hi (Nat.not_lt_zero _), fun i hi => by show (ByteArray.mk #[111]).size ≤ 1048576; decide, fun i hi => absurd hi (Nat.not_lt_zero _), fun i hi => absurd hi (Nat.not_lt_zero _), fun i hi => absurd hi (Nat.not_lt_zero _), fun i hi => absurd hi (Nat.not_lt_zero _)⟩

theorem p9 : Pure PP 9 [] fun r => r = .bool true := by
  have ok0 : (newM 2 0).Ok := ⟨by decide, by decide, by decide⟩
  have in0 : (newM 2 0).inF 0 = (2, newM 2 0) := rfl
  have in1 : (newM 2 0).inF 1 = (4, newM 2 0) := rfl
  refine Fn.pure fmix f9 ?_
  unfold a9 r9
  simp -implicitDefEqProofs only [vqa, Nat.reduceEqDiff, Nat.reduceAdd, reduceIte, Nat.reduceLeDiff, Nat.reduceBEq, Nat.reduceLT, Nat.reduceSub, Int.reduceLT, Int.reduceLE, Int.reduceEq, Int.reduceToNat, Nat.reduceMul, eq_self, implies_true, forall_const]
  refine CallW.frz rfl ⟨rfl, trivial, trivial⟩ ?_
  refine CallW.wkn (args0 := [.fs 2 fun i => [AV.str ⟨#[97]⟩, AV.str ⟨#[98]⟩].getD i .undef, .fs 0 fun _ => .undef]) ?_ rfl
  refine (p8 1000 (ni := 2) (nr := 0) (fun i hi => ?_) (fun i hi => absurd hi (Nat.not_lt_zero _)) (by decide) (by decide)).mono fun r m ⟨v, gi, gr, hr, hM, hk, _, _⟩ => ?_
  · have : i = 0 ∨ i = 1 := by omega
    rcases this with rfl | rfl <;> exact ⟨rfl, rfl⟩
  subst hr
  have hS : ∀ i, Ext (fun _ => False) 1000 1100 i → i < 1100 := fun i h => h.elim (fun h => h.elim) (fun h => h.2)
  obtain ⟨cs, hc⟩ : ∃ cs, m 1011 = .var v cs := by obtain ⟨_, _, _, _, _, h, _⟩ := hM; exact ⟨_, h⟩
  simp -implicitDefEqProofs only [vqa, Nat.reduceEqDiff, Nat.reduceAdd, reduceIte, Nat.reduceLeDiff, Nat.reduceBEq, Nat.reduceLT, Nat.reduceSub, Int.reduceLT, Int.reduceLE, Int.reduceEq, Int.reduceToNat, Nat.reduceMul, eq_self, implies_true, forall_const, hc]
  refine (p11 hM ok0 0).mono fun r m1 ⟨hr, hM1, hF1⟩ => ?_
  rw [in0] at hr hM1
  subst hr
  simp -implicitDefEqProofs only [vqa, Nat.reduceEqDiff, Nat.reduceAdd, reduceIte, Nat.reduceLeDiff, Nat.reduceBEq, Nat.reduceLT, Nat.reduceSub, Int.reduceLT, Int.reduceLE, Int.reduceEq, Int.reduceToNat, Nat.reduceMul, eq_self, implies_true, forall_const]
  refine (p11 hM1 ok0 1).mono fun r m2 ⟨hr, hM2, hF2⟩ => ?_
  rw [in1] at hr hM2
  subst hr
  simp -implicitDefEqProofs only [vqa, Nat.reduceEqDiff, Nat.reduceAdd, reduceIte, Nat.reduceLeDiff, Nat.reduceBEq, Nat.reduceLT, Nat.reduceSub, Int.reduceLT, Int.reduceLE, Int.reduceEq, Int.reduceToNat, Nat.reduceMul, eq_self, implies_true, forall_const]
  refine (p26 1100 hM2 ok0 hS 2 4).mono fun r m3 ⟨hr, hM3, hF3⟩ => ?_
  rw [newX_val] at hr
  subst hr
  simp -implicitDefEqProofs only [vqa, Nat.reduceEqDiff, Nat.reduceAdd, reduceIte, Nat.reduceLeDiff, Nat.reduceBEq, Nat.reduceLT, Nat.reduceSub, Int.reduceLT, Int.reduceLE, Int.reduceEq, Int.reduceToNat, Nat.reduceMul, eq_self, implies_true, forall_const]
  have hE : GraC [.fs 0 (fun _ => .undef), .fs 1 (fun i => [AV.str ⟨#[111]⟩].getD i .undef), .fs 0 (fun _ => .undef), .fs 0 (fun _ => .undef), .fs 0 (fun _ => .undef)] emptyG := by
    refine ⟨_, _, _, _, _, rfl, fun i hi => absurd hi (Nat.not_lt_zero _), fun i hi => ?_, fun i hi => absurd hi (Nat.not_lt_zero _), fun i hi => absurd hi (Nat.not_lt_zero _), fun i hi => absurd hi (Nat.not_lt_zero _)⟩
    have hi : i < 1 := hi
    obtain rfl : i = 0 := by omega
    rfl
  refine CallW.sc (p42 hE emptyG_ok) rfl ?_ fun r hr => ⟨by subst hr; rfl, ?_⟩
  · simp only [rsC, rs2, rs1, rs0, vqa, Nat.reduceEqDiff, Nat.reduceAdd, reduceIte, Nat.reduceLeDiff, Nat.reduceBEq, Nat.reduceLT, Nat.reduceSub, Int.reduceLT, Int.reduceLE, Int.reduceEq, Int.reduceToNat, Nat.reduceMul, eq_self, implies_true, forall_const]
  rw [emptyG_F] at hr
  subst hr
  simp -implicitDefEqProofs only [vqa, Nat.reduceEqDiff, Nat.reduceAdd, reduceIte, Nat.reduceLeDiff, Nat.reduceBEq, Nat.reduceLT, Nat.reduceSub, Int.reduceLT, Int.reduceLE, Int.reduceEq, Int.reduceToNat, Nat.reduceMul, eq_self, implies_true, forall_const]
end Go.Ab
