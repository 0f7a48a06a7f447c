/- Walks: Table at one graph, Flip at one table, cuts. -/
import Derived.Test.YtiecnmojbdogfaaSaCut4
import Derived.Test.YtiecnmojbdogfaaSaCutM
set_option linter.unusedSimpArgs false
set_option linter.unusedVariables false
namespace Go.Ab
open Go
def a10 : AC := (.seq (.ops [⟨(some 0), none, (.v (.mv (.c (.bool false))))⟩]) (.seq (.ops [⟨(some 4), none, (.e (.lit 4 9 1 2 [(.str ⟨#[]⟩)] [(0, (.c (.str ⟨#[97]⟩))), (1, (.c (.str ⟨#[98]⟩)))]))⟩, ⟨(some 5), none, (.v (.build [(.int .i64 0), (.int .i64 0)] [(0, (1, (.c (.int .i64 2)))), (1, (1, (.c (.int .i64 5))))]))⟩, ⟨(some 6), none, (.e (.lit 6 60 2 1 [(.int .i64 0), (.int .i64 0)] [(0, (.t 5))]))⟩, ⟨(some 7), none, (.v (.build [.cap0, .cap0, .cap0, .cap0, .cap0] [(0, (1, (.t 4))), (3, (1, (.t 6)))]))⟩, ⟨(some 1), none, (.e (.alloc 1 [.cap0, .cap0, .cap0, .cap0, .cap0]))⟩, ⟨none, none, (.e (.store 5 (.t 1) (.t 7)))⟩]) (.seq (.ops [⟨(some 9), none, (.v (.load 5 true (.t 1)))⟩, ⟨(some 10), none, (.e (.lit 10 3 1 2 [(.int .i64 0)] [(0, (.c (.int .i64 1))), (1, (.c (.int .i64 2)))]))⟩, ⟨(some 11), none, (.call (.c (.fn 21 [])) [(.t 9), (.c (.int .i64 3)), (.t 10)])⟩, ⟨(some 8), none, (.v (.mv (.t 11)))⟩, ⟨(some 12), none, (.v (.ext 0 (.t 8)))⟩, ⟨(some 13), none, (.v (.ext 1 (.t 8)))⟩, ⟨(some 2), none, (.v (.mv (.t 12)))⟩, ⟨(some 3), none, (.v (.mv (.t 13)))⟩]) (.seq (.ops [⟨(some 14), none, (.v (.mv (.t 3)))⟩, ⟨(some 15), none, (.v (.bin .eql (.t 14) (.c (.int .i64 0))))⟩, ⟨(some 16), none, (.v (.mv (.t 15)))⟩, ⟨(some 17), (some (16, true)), (.v (.mv (.t 2)))⟩, ⟨(some 18), (some (16, true)), (.v (.bin .eql (.t 17) (.c (.int .u64 2))))⟩, ⟨(some 19), none, (.v (.pick (.t 16) (.t 18) (.c (.bool false))))⟩, ⟨(some 20), none, (.v (.mv (.t 19)))⟩, ⟨(some 21), (some (20, true)), (.call (.c (.fn 11 [])) [(.c (.int .i64 0))])⟩, ⟨(some 22), (some (20, true)), (.v (.bin .eql (.t 21) (.c (.int .u64 12297829382473034410))))⟩, ⟨(some 23), none, (.v (.pick (.t 20) (.t 22) (.c (.bool false))))⟩, ⟨(some 24), none, (.v (.mv (.t 23)))⟩, ⟨(some 25), (some (24, true)), (.call (.c (.fn 19 [])) [(.c (.int .u64 2)), (.c (.int .i64 1)), (.c (.int .i64 1))])⟩, ⟨(some 26), (some (24, true)), (.v (.bin .eql (.t 25) (.c (.int .u64 1))))⟩, ⟨(some 27), none, (.v (.pick (.t 24) (.t 26) (.c (.bool false))))⟩, ⟨(some 0), none, (.v (.mv (.t 27)))⟩]) .ret))))
def r10 : List AI := [(.mv (.t 0))]
theorem f10 : Fn PP 10 0 a10 r10 := Fn.of (fn := Go.Proofs.Try.f10) (by kernel_rfl) (by kernel_rfl) (by kernel_rfl)
def a21_0 : AC := (.seq (.ops [⟨(some 32), none, (.v (.bin .lss (.t 31) (.t 30)))⟩]) (.seq (.cond (.t 32) .skip (.exit 0)) (.seq (.block 1 (.seq (.ops [⟨(some 33), none, (.v (.mv (.t 31)))⟩, ⟨(some 34), none, (.v (.idx 1 (.t 29) (.t 31)))⟩, ⟨(some 35), none, (.v (.load 1 false (.t 34)))⟩, ⟨(some 9), none, (.v (.mv (.t 33)))⟩, ⟨(some 10), none, (.v (.mv (.t 35)))⟩]) (.seq (.seq (.ops [⟨(some 36), none, (.v (.mv (.t 10)))⟩, ⟨(some 37), none, (.v (.bin .lss (.t 36) (.c (.int .i64 1))))⟩, ⟨(some 38), none, (.v (.mv (.t 37)))⟩, ⟨(some 39), (some (38, false)), (.v (.mv (.t 10)))⟩, ⟨(some 40), (some (38, false)), (.v (.load 5 true (.t 3)))⟩, ⟨(some 41), (some (38, false)), (.call (.c (.fn 41 [])) [(.t 40)])⟩, ⟨(some 42), (some (38, false)), (.v (.bin .geq (.t 39) (.t 41)))⟩, ⟨(some 43), none, (.v (.pick (.t 38) (.c (.bool true)) (.t 42)))⟩]) (.cond (.t 43) (.seq (.ops [⟨(some 6), none, (.v (.mv (.c (.int .u64 0))))⟩, ⟨(some 7), none, (.v (.mv (.c (.int .i64 2))))⟩]) .ret) .skip)) (.seq (.ops [⟨(some 44), none, (.v (.mv (.t 9)))⟩, ⟨(some 45), none, (.v (.bin .gtr (.t 44) (.c (.int .i64 0))))⟩, ⟨(some 46), none, (.v (.mv (.t 45)))⟩, ⟨(some 47), (some (46, true)), (.v (.mv (.t 10)))⟩, ⟨(some 48), (some (46, true)), (.v (.mv (.t 2)))⟩, ⟨(some 49), (some (46, true)), (.v (.mv (.t 9)))⟩, ⟨(some 50), (some (46, true)), (.v (.bin .sub (.t 49) (.c (.int .i64 1))))⟩, ⟨(some 51), (some (46, true)), (.v (.idx 1 (.t 48) (.t 50)))⟩, ⟨(some 52), (some (46, true)), (.v (.load 1 false (.t 51)))⟩, ⟨(some 53), (some (46, true)), (.v (.bin .leq (.t 47) (.t 52)))⟩, ⟨(some 54), none, (.v (.pick (.t 46) (.t 53) (.c (.bool false))))⟩]) (.cond (.t 54) (.seq (.ops [⟨(some 6), none, (.v (.mv (.c (.int .u64 0))))⟩, ⟨(some 7), none, (.v (.mv (.c (.int .i64 5))))⟩]) .ret) .skip))))) (.ops [⟨(some 55), none, (.v (.bin .add (.t 31) (.c (.int .i64 1))))⟩, ⟨(some 31), none, (.v (.mv (.t 55)))⟩]))))
def a21 : AC := (.seq (.ops [⟨(some 3), none, (.e (.box 3 0 (.t 0)))⟩, ⟨(some 6), none, (.v (.mv (.c (.int .u64 0))))⟩, ⟨(some 7), none, (.v (.mv (.c (.int .i64 0))))⟩]) (.seq (.seq (.ops [⟨(some 13), none, (.v (.load 5 true (.t 3)))⟩, ⟨(some 14), none, (.call (.c (.fn 40 [])) [(.t 13)])⟩, ⟨(some 8), none, (.v (.mv (.t 14)))⟩]) (.seq (.ops [⟨(some 15), none, (.v (.mv (.t 8)))⟩, ⟨(some 16), none, (.v (.bin .neq (.t 15) (.c (.int .i64 0))))⟩]) (.cond (.t 16) (.seq (.ops [⟨(some 17), none, (.v (.mv (.t 8)))⟩, ⟨(some 6), none, (.v (.mv (.c (.int .u64 0))))⟩, ⟨(some 7), none, (.v (.mv (.t 17)))⟩]) .ret) .skip))) (.seq (.seq (.ops [⟨(some 18), none, (.v (.mv (.t 2)))⟩, ⟨(some 19), none, (.v (.len (.t 18)))⟩, ⟨(some 20), none, (.v (.bin .gtr (.t 19) (.c (.int .i64 6))))⟩]) (.cond (.t 20) (.seq (.ops [⟨(some 6), none, (.v (.mv (.c (.int .u64 0))))⟩, ⟨(some 7), none, (.v (.mv (.c (.int .i64 3))))⟩]) .ret) .skip)) (.seq (.seq (.ops [⟨(some 21), none, (.v (.mv (.t 1)))⟩, ⟨(some 22), none, (.v (.bin .lss (.t 21) (.c (.int .i64 0))))⟩, ⟨(some 23), none, (.v (.mv (.t 22)))⟩, ⟨(some 24), (some (23, false)), (.v (.mv (.t 1)))⟩, ⟨(some 25), (some (23, false)), (.v (.load 5 true (.t 3)))⟩, ⟨(some 26), (some (23, false)), (.call (.c (.fn 41 [])) [(.t 25)])⟩, ⟨(some 27), (some (23, false)), (.v (.bin .geq (.t 24) (.t 26)))⟩, ⟨(some 28), none, (.v (.pick (.t 23) (.c (.bool true)) (.t 27)))⟩]) (.cond (.t 28) (.seq (.ops [⟨(some 6), none, (.v (.mv (.c (.int .u64 0))))⟩, ⟨(some 7), none, (.v (.mv (.c (.int .i64 2))))⟩]) .ret) .skip)) (.seq (.seq (.ops [⟨(some 29), none, (.v (.mv (.t 2)))⟩, ⟨(some 30), none, (.v (.len (.t 29)))⟩, ⟨(some 31), none, (.v (.mv (.c (.int .i64 0))))⟩]) (.block 0 (.loop a21_0))) (.seq (.ops [⟨(some 57), none, (.v (.load 5 true (.t 3)))⟩, ⟨(some 58), none, (.v (.mv (.t 1)))⟩, ⟨(some 59), none, (.v (.mv (.t 2)))⟩, ⟨(some 60), none, (.call (.c (.fn 42 [])) [(.t 57), (.t 58), (.t 59)])⟩, ⟨(some 56), none, (.v (.mv (.t 60)))⟩, ⟨(some 61), none, (.v (.ext 0 (.t 56)))⟩, ⟨(some 62), none, (.v (.ext 1 (.t 56)))⟩, ⟨(some 11), none, (.v (.mv (.t 61)))⟩, ⟨(some 12), none, (.v (.mv (.t 62)))⟩]) (.seq (.seq (.ops [⟨(some 63), none, (.v (.mv (.t 12)))⟩, ⟨(some 64), none, (.v (.not (.t 63)))⟩]) (.cond (.t 64) (.seq (.ops [⟨(some 6), none, (.v (.mv (.c (.int .u64 0))))⟩, ⟨(some 7), none, (.v (.mv (.c (.int .i64 4))))⟩]) .ret) .skip)) (.seq (.ops [⟨(some 65), none, (.v (.mv (.t 11)))⟩, ⟨(some 6), none, (.v (.mv (.t 65)))⟩, ⟨(some 7), none, (.v (.mv (.c (.int .i64 0))))⟩]) .ret))))))))
def r21 : List AI := [(.mv (.t 6)), (.mv (.t 7))]
theorem f21 : Fn PP 21 3 a21 r21 := Fn.of (fn := Go.Proofs.Try.f21) (by kernel_rfl) (by kernel_rfl) (by kernel_rfl)
theorem cutG_names : namesF cutG.names (cutG.ni + cutG.nr) = 0 := by
  have n0 : nameOk (cutG.names 0) := by decide +kernel
  have n1 : nameOk (cutG.names 1) := by decide +kernel
  have a0 : nameAt cutG.names 0 = 0 := nameAt_ok n0 fun ⟨j, hj, _⟩ => absurd hj (Nat.not_lt_zero _)
  have a1 : nameAt cutG.names 1 = 0 := nameAt_ok n1 fun ⟨j, hj, h⟩ => by
    obtain rfl : j = 0 := by omega
    exact absurd h (by decide +kernel)
  exact scan_step (scan_step rfl a0) a1
theorem cutG_zero : graphF cutG = 0 := by
  unfold graphF
  rw [cutG_names, if_neg (by decide), if_neg (by decide), if_neg (by decide)]
  have h1 : namesF cutG.out cutG.no = 0 := rfl
  have h2 : scan (andAt cutG) cutG.na = 0 := by
    refine scan_step rfl ?_
    unfold andAt
    rw [if_pos]
    exact ⟨by unfold litOk; decide, by unfold litOk; decide⟩
  rw [h1, h2]
  rfl
theorem p21 {cs : List AV} (hG : GraC cs cutG) {f : Nat → AV} (hf : ∀ i, i < 2 → f i = .int .i64 ((i : Int) + 1)) : Pure PP 21 [.agg cs, .int .i64 3, .fs 2 f] fun r => r = .tup [.int .u64 2, .int .i64 0] := by
  have pT := p42 hG hf
  have pC := p40 hG cutG_ok
  have pN := p41 hG cutG_ok
  rw [cutG_zero] at pC
  obtain ⟨f0, f1, f2, f3, f4, rfl, g0, g1, g2, g3, g4⟩ := hG
  refine Fn.pure fmix f21 ?_
  unfold a21 r21
  simp -implicitDefEqProofs only [vqa, Nat.reduceEqDiff, Nat.reduceAdd, reduceIte, Nat.reduceLeDiff, Nat.reduceBEq, Nat.reduceLT, Nat.reduceSub, Int.reduceLT, Int.reduceLE, Int.reduceEq, Int.reduceToNat, Nat.reduceMul, eq_self, implies_true, forall_const]
  refine CallW.sc pC rfl ⟨⟨trivial, trivial, trivial, trivial, trivial, trivial⟩, trivial⟩ fun r hr => ⟨by subst hr; rfl, ?_⟩
  subst hr
  simp -implicitDefEqProofs only [vqa, Nat.reduceEqDiff, Nat.reduceAdd, reduceIte, Nat.reduceLeDiff, Nat.reduceBEq, Nat.reduceLT, Nat.reduceSub, Int.reduceLT, Int.reduceLE, Int.reduceEq, Int.reduceToNat, Nat.reduceMul, eq_self, implies_true, forall_const]
  refine CallW.sc pN rfl ⟨⟨trivial, trivial, trivial, trivial, trivial, trivial⟩, trivial⟩ fun r hr => ⟨by subst hr; rfl, ?_⟩
  subst hr
  simp -implicitDefEqProofs only [vqa, Nat.reduceEqDiff, Nat.reduceAdd, reduceIte, Nat.reduceLeDiff, Nat.reduceBEq, Nat.reduceLT, Nat.reduceSub, Int.reduceLT, Int.reduceLE, Int.reduceEq, Int.reduceToNat, Nat.reduceMul, eq_self, implies_true, forall_const, show ((cutG.nodes : Nat) : Int) = 4 from rfl]
  generalize (mem0 3).ver + 1 = V3
  refine vFor 2 (fun i e m => e 1 = .int .i64 3 ∧ e 2 = .fs 2 f ∧ e 3 = .ptr 3 V3 0 ∧ e 29 = .fs 2 f ∧ e 30 = .int .i64 2 ∧ e 31 = .int .i64 i ∧ m 3 = .var V3 [.fs cutG.ni f0, .fs cutG.no f1, .fs cutG.nr f2, .fs cutG.na f3, .fs cutG.nk f4]) ?_ ?_ ?_
  · simp -implicitDefEqProofs only [vqa, Nat.reduceEqDiff, Nat.reduceAdd, reduceIte, Nat.reduceLeDiff, Nat.reduceBEq, Nat.reduceLT, Nat.reduceSub, Int.reduceLT, Int.reduceLE, Int.reduceEq, Int.reduceToNat, Nat.reduceMul, eq_self, implies_true, forall_const]
  · rintro i e m hi hi' ⟨h1, h2, h3, h29, h30, h31, m3⟩
    have hfi := hf i hi
    have hc : i = 0 ∨ i = 1 := by omega
    rcases hc with rfl | rfl
    · have hf0 : f 0 = .int .i64 1 := hfi
      have h31 : e 31 = .int .i64 0 := h31
      unfold a21_0
      simp -implicitDefEqProofs only [vqa, Nat.reduceEqDiff, Nat.reduceAdd, reduceIte, Nat.reduceLeDiff, Nat.reduceBEq, Nat.reduceLT, Nat.reduceSub, Int.reduceLT, Int.reduceLE, Int.reduceEq, Int.reduceToNat, Nat.reduceMul, eq_self, implies_true, forall_const, h1, h2, h3, h29, h30, h31, m3, hf0, show (0 : Int).toNat = 0 from rfl]
      refine CallW.sc pN rfl ⟨⟨trivial, trivial, trivial, trivial, trivial, trivial⟩, trivial⟩ fun r hr => ⟨by subst hr; rfl, ?_⟩
      subst hr
      simp -implicitDefEqProofs only [vqa, Nat.reduceEqDiff, Nat.reduceAdd, reduceIte, Nat.reduceLeDiff, Nat.reduceBEq, Nat.reduceLT, Nat.reduceSub, Int.reduceLT, Int.reduceLE, Int.reduceEq, Int.reduceToNat, Nat.reduceMul, eq_self, implies_true, forall_const, h1, h2, h3, h29, h30, h31, m3, show ((cutG.nodes : Nat) : Int) = 4 from rfl]
      rfl
    · have hf1 : f 1 = .int .i64 2 := hfi
      have hf0 : f 0 = .int .i64 1 := hf 0 (by decide)
      have h31 : e 31 = .int .i64 1 := h31
      unfold a21_0
      simp -implicitDefEqProofs only [vqa, Nat.reduceEqDiff, Nat.reduceAdd, reduceIte, Nat.reduceLeDiff, Nat.reduceBEq, Nat.reduceLT, Nat.reduceSub, Int.reduceLT, Int.reduceLE, Int.reduceEq, Int.reduceToNat, Nat.reduceMul, eq_self, implies_true, forall_const, h1, h2, h3, h29, h30, h31, m3, hf1, show (1 : Int).toNat = 1 from rfl]
      refine CallW.sc pN rfl ⟨⟨trivial, trivial, trivial, trivial, trivial, trivial⟩, trivial⟩ fun r hr => ⟨by subst hr; rfl, ?_⟩
      subst hr
      simp -implicitDefEqProofs only [vqa, Nat.reduceEqDiff, Nat.reduceAdd, reduceIte, Nat.reduceLeDiff, Nat.reduceBEq, Nat.reduceLT, Nat.reduceSub, Int.reduceLT, Int.reduceLE, Int.reduceEq, Int.reduceToNat, Nat.reduceMul, eq_self, implies_true, forall_const, h1, h2, h3, h29, h30, h31, m3, hf0, show (0 : Int).toNat = 0 from rfl, show IntKind.i64.wrap (1 - 1) = 0 from rfl, show ((cutG.nodes : Nat) : Int) = 4 from rfl]
      rfl
  · rintro e m ⟨h1, h2, h3, h29, h30, h31, m3⟩
    have h31 : e 31 = .int .i64 2 := h31
    unfold a21_0
    simp -implicitDefEqProofs only [vqa, Nat.reduceEqDiff, Nat.reduceAdd, reduceIte, Nat.reduceLeDiff, Nat.reduceBEq, Nat.reduceLT, Nat.reduceSub, Int.reduceLT, Int.reduceLE, Int.reduceEq, Int.reduceToNat, Nat.reduceMul, eq_self, implies_true, forall_const, h1, h2, h3, h29, h30, h31, m3]
    refine CallW.sc pT rfl ⟨⟨trivial, trivial, trivial, trivial, trivial, trivial⟩, trivial, trivial, trivial⟩ fun r hr => ⟨by subst hr; rfl, ?_⟩
    subst hr
    simp -implicitDefEqProofs only [vqa, Nat.reduceEqDiff, Nat.reduceAdd, reduceIte, Nat.reduceLeDiff, Nat.reduceBEq, Nat.reduceLT, Nat.reduceSub, Int.reduceLT, Int.reduceLE, Int.reduceEq, Int.reduceToNat, Nat.reduceMul, eq_self, implies_true, forall_const]
theorem p19c : Pure PP 19 [.int .u64 2, .int .i64 1, .int .i64 1] fun r => r = .int .u64 1 := (p19 2 1 1 ⟨by decide, by decide⟩).mono fun r _ ⟨s, hr, hs, _, hb⟩ => by
  subst hr
  have e : s = 1 := u64_ext hs ⟨by decide, by decide⟩ fun k hk => by
    rw [hb ⟨by decide, by decide, by decide, by decide⟩ k hk]
    revert k; decide +kernel
  rw [e]
theorem p10 : Pure PP 10 [] fun r => r = .bool true := by
  refine Fn.pure fmix f10 ?_
  unfold a10 r10
  simp -implicitDefEqProofs only [vqa, Nat.reduceEqDiff, Nat.reduceAdd, reduceIte, Nat.reduceLeDiff, Nat.reduceBEq, Nat.reduceLT, Nat.reduceSub, Int.reduceLT, Int.reduceLE, Int.reduceEq, Int.reduceToNat, Nat.reduceMul, eq_self, implies_true, forall_const]
  refine CallW.sc (p21 (cs := [.fs 2 fun i => [AV.str ⟨#[97]⟩, .str ⟨#[98]⟩].getD i .undef, .fs 0 fun _ => .undef, .fs 0 fun _ => .undef, .fs 1 fun i => [AV.agg [.int .i64 2, .int .i64 5]].getD i .undef, .fs 0 fun _ => .undef]) ?_ (f := fun i => [AV.int .i64 1, .int .i64 2].getD i .undef) ?_) ?_ ?_ fun r hr => ⟨by subst hr; rfl, ?_⟩
  · refine ⟨_, _, _, _, _, rfl, fun i hi => ?_, fun i hi => absurd hi (Nat.not_lt_zero _), fun i hi => absurd hi (Nat.not_lt_zero _), fun i hi => ?_, fun i hi => absurd hi (Nat.not_lt_zero _)⟩
    · have hi : i < 2 := hi
      have hc : i = 0 ∨ i = 1 := by omega
      rcases hc with rfl | rfl <;> rfl
    · have hi : i < 1 := hi
      obtain rfl : i = 0 := by omega
      rfl
  · intro i hi
    have hc : i = 0 ∨ i = 1 := by omega
    rcases hc with rfl | rfl <;> rfl
  · simp only [rsC, rs2, rs1, rs0, wk0, isFz0, vqa, Nat.reduceEqDiff, Nat.reduceAdd, reduceIte, Nat.reduceLeDiff, Nat.reduceBEq, Nat.reduceLT, Nat.reduceSub, Int.reduceLT, Int.reduceLE, Int.reduceEq, Int.reduceToNat, Nat.reduceMul, eq_self, implies_true, forall_const]
  · simp only [rsC, rs2, rs1, rs0, wk0, isFz0, vqa, Nat.reduceEqDiff, Nat.reduceAdd, reduceIte, Nat.reduceLeDiff, Nat.reduceBEq, Nat.reduceLT, Nat.reduceSub, Int.reduceLT, Int.reduceLE, Int.reduceEq, Int.reduceToNat, Nat.reduceMul, eq_self, implies_true, forall_const]
  subst hr
  simp -implicitDefEqProofs only [vqa, Nat.reduceEqDiff, Nat.reduceAdd, reduceIte, Nat.reduceLeDiff, Nat.reduceBEq, Nat.reduceLT, Nat.reduceSub, Int.reduceLT, Int.reduceLE, Int.reduceEq, Int.reduceToNat, Nat.reduceMul, eq_self, implies_true, forall_const]
  refine CallW.sc (p11 0) rfl ⟨trivial, trivial⟩ fun r ⟨t, hr, ht, _, htb⟩ => ⟨by subst hr; rfl, ?_⟩
  subst hr
  have e1 : t = 12297829382473034410 := u64_ext ht ⟨by decide, by decide⟩ fun j hj => by
    rw [htb 0 (by decide) rfl j hj]
    revert j; decide +kernel
  subst e1
  simp -implicitDefEqProofs only [vqa, Nat.reduceEqDiff, Nat.reduceAdd, reduceIte, Nat.reduceLeDiff, Nat.reduceBEq, Nat.reduceLT, Nat.reduceSub, Int.reduceLT, Int.reduceLE, Int.reduceEq, Int.reduceToNat, Nat.reduceMul, eq_self, implies_true, forall_const]
  refine CallW.sc p19c rfl ⟨trivial, trivial, trivial, trivial⟩ fun r hr => ⟨by subst hr; rfl, ?_⟩
  subst hr
  simp -implicitDefEqProofs only [vqa, Nat.reduceEqDiff, Nat.reduceAdd, reduceIte, Nat.reduceLeDiff, Nat.reduceBEq, Nat.reduceLT, Nat.reduceSub, Int.reduceLT, Int.reduceLE, Int.reduceEq, Int.reduceToNat, Nat.reduceMul, eq_self, implies_true, forall_const]
end Go.Ab
