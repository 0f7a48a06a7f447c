/- Walk: the nodes below. -/
import Derived.Test.YtodncnlnadgkhaaSaGLit0
import Derived.Test.YtodncnlnadgkhaaLwCone
import Derived.Test.YtodncnlnadgkhaaFwT
set_option linter.unusedSimpArgs false
set_option linter.unusedVariables false
namespace Go.Ab
open Go
def a139_0 : AC := (.seq (.ops [⟨(some 16), none, (.v (.bin .lss (.t 15) (.t 14)))⟩]) (.seq (.cond (.t 16) .skip (.exit 0)) (.seq (.block 1 (.seq (.ops [⟨(some 17), none, (.v (.idx 1 (.t 13) (.t 15)))⟩, ⟨(some 18), none, (.v (.load 1 false (.t 17)))⟩, ⟨(some 7), none, (.v (.mv (.t 18)))⟩]) (.ops [⟨(some 19), none, (.v (.mv (.t 5)))⟩, ⟨(some 20), none, (.v (.mv (.t 7)))⟩, ⟨(some 21), none, (.v (.bin .quo (.t 20) (.c (.int .i64 2))))⟩, ⟨(some 22), none, (.v (.idx 1 (.t 19) (.t 21)))⟩, ⟨none, none, (.e (.store 1 (.t 22) (.c (.bool true))))⟩]))) (.ops [⟨(some 23), none, (.v (.bin .add (.t 15) (.c (.int .i64 1))))⟩, ⟨(some 15), none, (.v (.mv (.t 23)))⟩]))))
def a139_1 : AC := (.seq (.seq (.ops [⟨(some 30), none, (.v (.mv (.t 9)))⟩, ⟨(some 31), none, (.v (.bin .geq (.t 30) (.c (.int .i64 0))))⟩]) (.cond (.t 31) .skip (.exit 2))) (.seq (.block 3 (.seq (.ops [⟨(some 34), none, (.v (.mv (.t 5)))⟩, ⟨(some 35), none, (.v (.mv (.t 8)))⟩, ⟨(some 36), none, (.v (.mv (.t 9)))⟩, ⟨(some 37), none, (.v (.bin .add (.t 35) (.t 36)))⟩, ⟨(some 38), none, (.v (.idx 1 (.t 34) (.t 37)))⟩, ⟨(some 39), none, (.v (.load 1 false (.t 38)))⟩]) (.cond (.t 39) (.any [⟨(some 40), none, (.v (.mv (.t 5)))⟩, ⟨(some 41), none, (.v (.fld 3 (.t 2)))⟩, ⟨(some 42), none, (.v (.load 1 false (.t 41)))⟩, ⟨(some 43), none, (.v (.mv (.t 9)))⟩, ⟨(some 44), none, (.v (.idx 2 (.t 42) (.t 43)))⟩, ⟨(some 45), none, (.v (.fld 0 (.t 44)))⟩, ⟨(some 46), none, (.v (.load 1 false (.t 45)))⟩, ⟨(some 47), none, (.v (.bin .quo (.t 46) (.c (.int .i64 2))))⟩, ⟨(some 48), none, (.v (.mv (.t 5)))⟩, ⟨(some 49), none, (.v (.fld 3 (.t 2)))⟩, ⟨(some 50), none, (.v (.load 1 false (.t 49)))⟩, ⟨(some 51), none, (.v (.mv (.t 9)))⟩, ⟨(some 52), none, (.v (.idx 2 (.t 50) (.t 51)))⟩, ⟨(some 53), none, (.v (.fld 1 (.t 52)))⟩, ⟨(some 54), none, (.v (.load 1 false (.t 53)))⟩, ⟨(some 55), none, (.v (.bin .quo (.t 54) (.c (.int .i64 2))))⟩, ⟨(some 56), none, (.v (.idx 1 (.t 40) (.t 47)))⟩, ⟨none, none, (.e (.store 1 (.t 56) (.c (.bool true))))⟩, ⟨(some 57), none, (.v (.idx 1 (.t 48) (.t 55)))⟩, ⟨none, none, (.e (.store 1 (.t 57) (.c (.bool true))))⟩] [[], [], [1], [], [2, 3], [4], [5], [6], [], [], [9], [], [10, 11], [12], [13], [14], [0, 7, 0, 1, 2, 3, 4, 5, 6, 7, 14], [16, 0, 1, 2, 3, 4, 5, 6, 7, 14], [8, 15, 0, 1, 2, 3, 4, 5, 6, 7, 8, 9, 10, 11, 12, 13, 14, 15, 16, 17], [18, 17, 0, 1, 2, 3, 4, 5, 6, 7, 8, 9, 10, 11, 12, 13, 14, 15, 16, 17]]) .skip))) (.ops [⟨(some 32), none, (.v (.mv (.t 9)))⟩, ⟨(some 33), none, (.v (.bin .sub (.t 32) (.c (.int .i64 1))))⟩, ⟨(some 9), none, (.v (.mv (.t 33)))⟩])))
def a139 : AC := (.seq (.ops [⟨(some 2), none, (.e (.box 2 0 (.t 0)))⟩, ⟨(some 4), none, (.v (.mv (.c .cap0)))⟩]) (.seq (.ops [⟨(some 10), none, (.v (.load 5 true (.t 2)))⟩, ⟨(some 11), none, (.call (.c (.fn 116 [])) [(.t 10)])⟩, ⟨(some 12), none, (.e (.make 12 4 1 1 [(.bool false)] (.t 11) (.t 11)))⟩, ⟨(some 5), none, (.v (.mv (.t 12)))⟩]) (.seq (.seq (.ops [⟨(some 13), none, (.v (.mv (.t 1)))⟩, ⟨(some 14), none, (.v (.len (.t 13)))⟩, ⟨(some 15), none, (.v (.mv (.c (.int .i64 0))))⟩]) (.block 0 (.loop a139_0))) (.seq (.ops [⟨(some 24), none, (.v (.load 5 true (.t 2)))⟩, ⟨(some 25), none, (.call (.c (.fn 141 [])) [(.t 24)])⟩, ⟨(some 8), none, (.v (.mv (.t 25)))⟩]) (.seq (.seq (.ops [⟨(some 26), none, (.v (.fld 3 (.t 2)))⟩, ⟨(some 27), none, (.v (.load 1 false (.t 26)))⟩, ⟨(some 28), none, (.v (.len (.t 27)))⟩, ⟨(some 29), none, (.v (.bin .sub (.t 28) (.c (.int .i64 1))))⟩, ⟨(some 9), none, (.v (.mv (.t 29)))⟩]) (.block 2 (.loop a139_1))) (.seq (.ops [⟨(some 58), none, (.v (.mv (.t 5)))⟩, ⟨(some 4), none, (.v (.mv (.t 58)))⟩]) .ret))))))
def r139 : List AI := [(.mv (.t 4))]
theorem f139 : Fn PP 139 2 a139 r139 := Fn.of (fn := Go.Proofs.Try.f139) (by kernel_rfl) (by kernel_rfl) (by kernel_rfl)
theorem p139 {G : Gra} {cs : List AV} (hG : GraC cs G) (ok : G.Ok) (gd : G.Good) (n : Nat) (x : Nat → Int) (fx : Nat → AV) (hx : ∀ i, i < n → fx i = .int .i64 (x i)) (hok : ∀ i, i < n → litOk G.nodes (x i)) (hn : n ≤ 1048576) :
    Pure PP 139 [.agg cs, .fs n fx] fun r => ∃ f, r = .fs G.nodes f ∧ ∀ k, k < G.nodes → f k = .bool (keepB G n x k) := by
  have hG0 := hG
  obtain ⟨f0, f1, f2, f3, f4, rfl, g0, g1, g2, g3, g4⟩ := hG
  have b1 := gd.ni; have b2 := gd.nr; have b3 := gd.na
  have hbE : G.base = 1 + G.ni + G.nr := rfl
  have hnE : G.nodes = G.base + G.na := rfl
  refine Fn.pure fmix f139 ?_
  unfold a139 r139
  simp -implicitDefEqProofs only [vqa, Nat.reduceEqDiff, Nat.reduceAdd, reduceIte, Nat.reduceLeDiff, Nat.reduceBEq, Nat.reduceLT, Nat.reduceSub, Int.reduceLT, Int.reduceLE, Int.reduceEq, Int.reduceToNat, Nat.reduceMul, eq_self, implies_true, forall_const]
  refine CallW.sc (p116 hG0 ok) rfl ⟨⟨trivial, trivial, trivial, trivial, trivial, trivial⟩, trivial⟩ fun r hr => ⟨by subst hr; rfl, ?_⟩
  subst hr
  simp -implicitDefEqProofs only [vqa, Nat.reduceEqDiff, Nat.reduceAdd, reduceIte, Nat.reduceLeDiff, Nat.reduceBEq, Nat.reduceLT, Nat.reduceSub, Int.reduceLT, Int.reduceLE, Int.reduceEq, Int.reduceToNat, Nat.reduceMul, eq_self, implies_true, forall_const]
  refine ⟨by omega, ?_⟩
  generalize (mem0 2).ver + 1 = V2
  refine vFor n (fun i e m => e 2 = .ptr 2 V2 0 ∧ m 2 = .var V2 [.fs G.ni f0, .fs G.no f1, .fs G.nr f2, .fs G.na f3, .fs G.nk f4] ∧ e 13 = .fs n fx ∧ e 14 = .int .i64 n ∧ e 15 = .int .i64 i ∧ ∃ V g, e 5 = .sl 12 V G.nodes ∧ m 12 = .row V 4 1 G.nodes g ∧ ∀ k, k < G.nodes → g k = .bool (rootB x i k)) ?_ ?_ ?_
  · simp -implicitDefEqProofs only [vqa, Nat.reduceEqDiff, Nat.reduceAdd, reduceIte, Nat.reduceLeDiff, Nat.reduceBEq, Nat.reduceLT, Nat.reduceSub, Int.reduceLT, Int.reduceLE, Int.reduceEq, Int.reduceToNat, Nat.reduceMul, eq_self, implies_true, forall_const]
    exact ⟨_, _, rfl, rfl, fun k hk => rfl⟩
  · rintro i e m hi hi' ⟨h2, hm2, h13, h14, h15, V, g, h5, hm, hg⟩
    have hl := hok i hi
    have wl := ndx_quo hl (by omega)
    have lt := ndx_lt hl
    unfold a139_0
    simp -implicitDefEqProofs only [vqa, Nat.reduceEqDiff, Nat.reduceAdd, reduceIte, Nat.reduceLeDiff, Nat.reduceBEq, Nat.reduceLT, Nat.reduceSub, Int.reduceLT, Int.reduceLE, Int.reduceEq, Int.reduceToNat, Nat.reduceMul, eq_self, implies_true, forall_const, h2, hm2, h13, h14, h15, h5, hm, hi', hx i hi, wl]
    refine ⟨by omega, by decide, by omega, by omega, hi, wI (by omega) (by omega), _, _, rfl, rfl, fun k hk => ?_⟩
    by_cases e : k = ndx (x i)
    · simp only [e, decide_true, cond_true, rootB, Bool.or_true]
    · simp only [e, decide_false, cond_false, rootB, Bool.or_false]; exact hg k hk
  · rintro e m ⟨h2, hm2, h13, h14, h15, V, g, h5, hm, hg⟩
    unfold a139_0
    simp -implicitDefEqProofs only [vqa, Nat.reduceEqDiff, Nat.reduceAdd, reduceIte, Nat.reduceLeDiff, Nat.reduceBEq, Nat.reduceLT, Nat.reduceSub, Int.reduceLT, Int.reduceLE, Int.reduceEq, Int.reduceToNat, Nat.reduceMul, eq_self, implies_true, forall_const, h2, hm2, h13, h14, h15, h5, hm]
    refine CallW.sc (p141 hG0 ok) rfl ⟨⟨trivial, trivial, trivial, trivial, trivial, trivial⟩, trivial⟩ fun r hr => ⟨by subst hr; rfl, ?_⟩
    subst hr
    simp -implicitDefEqProofs only [vqa, Nat.reduceEqDiff, Nat.reduceAdd, reduceIte, Nat.reduceLeDiff, Nat.reduceBEq, Nat.reduceLT, Nat.reduceSub, Int.reduceLT, Int.reduceLE, Int.reduceEq, Int.reduceToNat, Nat.reduceMul, eq_self, implies_true, forall_const, h2, hm2, h5, hm]
    rw [wI (n := (G.na : Int) - 1) (by omega) (by omega)]
    refine vLoop (fun q e m => ∃ d, q + d = G.na ∧ e 2 = .ptr 2 V2 0 ∧ m 2 = .var V2 [.fs G.ni f0, .fs G.no f1, .fs G.nr f2, .fs G.na f3, .fs G.nk f4] ∧ e 8 = .int .i64 (G.base : Nat) ∧ e 9 = .int .i64 ((q : Int) - 1) ∧ ∃ g, e 5 = .sl 12 V G.nodes ∧ m 12 = .row V 4 1 G.nodes g ∧ ∀ k, k < G.nodes → g k = .bool (cnB G n x d k)) G.na ⟨0, rfl, ?_⟩ ?_
    · simp -implicitDefEqProofs only [vqa, Nat.reduceEqDiff, Nat.reduceAdd, reduceIte, Nat.reduceLeDiff, Nat.reduceBEq, Nat.reduceLT, Nat.reduceSub, Int.reduceLT, Int.reduceLE, Int.reduceEq, Int.reduceToNat, Nat.reduceMul, eq_self, implies_true, forall_const, h2, hm2, h5, hm]
      exact ⟨_, rfl, hg⟩
    · rintro q e m ⟨d, hq, h2, hm2, h8, h9, g, h5, hm, hg⟩
      cases q with
      | zero =>
        obtain rfl : d = G.na := by omega
        have c0 : ((0 : Nat) : Int) - 1 = -1 := rfl
        rw [c0] at h9
        unfold a139_1
        simp -implicitDefEqProofs only [vqa, Nat.reduceEqDiff, Nat.reduceAdd, reduceIte, Nat.reduceLeDiff, Nat.reduceBEq, Nat.reduceLT, Nat.reduceSub, Int.reduceLT, Int.reduceLE, Int.reduceEq, Int.reduceToNat, Nat.reduceMul, eq_self, implies_true, forall_const, h2, hm2, h8, h9, h5, hm]
        exact ⟨_, rfl, fun k hk => by rw [hg k hk, keepB_eq (cnB_iff gd)]⟩
      | succ i =>
        have hi : i < G.na := by omega
        have ed : G.na - 1 - d = i := by omega
        have h9' : e 9 = .int .i64 (i : Nat) := by rw [h9]; congr 1; omega
        have okA := gd.A i hi
        have okB := gd.B i hi
        have wA := ndx_quo okA (by omega)
        have wB := ndx_quo okB (by omega)
        have lA := ndx_lt okA
        have lB := ndx_lt okB
        have w1 : IntKind.i64.wrap (((G.base : Nat) : Int) + (i : Nat)) = ((G.base + i : Nat) : Int) := by rw [wI (by omega) (by omega)]; omega
        have hgi := hg (G.base + i) (by omega)
        have cE : ∀ k, cnB G n x (d + 1) k = if cnB G n x d (G.base + i) = true then cnB G n x d k || (decide (k = ndx (G.A i)) || decide (k = ndx (G.B i))) else cnB G n x d k := fun k => by simp only [cnB, ed]
        have i0 : (0 : Int) ≤ (i : Nat) := by omega
        unfold a139_1
        cases hb : cnB G n x d (G.base + i) with
        | false =>
          rw [hb] at hgi
          simp -implicitDefEqProofs only [vqa, Nat.reduceEqDiff, Nat.reduceAdd, reduceIte, Nat.reduceLeDiff, Nat.reduceBEq, Nat.reduceLT, Nat.reduceSub, Int.reduceLT, Int.reduceLE, Int.reduceEq, Int.reduceToNat, Nat.reduceMul, eq_self, implies_true, forall_const, h2, hm2, h8, h9', h5, hm, w1, hgi, i0]
          refine ⟨by omega, by omega, i, by omega, d + 1, by omega, wI (by omega) (by omega), _, rfl, fun k hk => ?_⟩
          rw [cE, hb]; exact hg k hk
        | true =>
          rw [hb] at hgi
          simp -implicitDefEqProofs only [vqa, Nat.reduceEqDiff, Nat.reduceAdd, reduceIte, Nat.reduceLeDiff, Nat.reduceBEq, Nat.reduceLT, Nat.reduceSub, Int.reduceLT, Int.reduceLE, Int.reduceEq, Int.reduceToNat, Nat.reduceMul, eq_self, implies_true, forall_const, h2, hm2, h8, h9', h5, hm, w1, hgi, i0]
          refine ⟨by omega, by omega, ?_⟩
          refine vAnyS [0, 1, 2, 3, 4, 5, 6, 7, 8, 9, 10, 11, 12, 13, 14, 15] [16, 17, 18, 19] 16 (oneL 2) (by kernel_rfl) (by kernel_rfl) ?_
          simp -implicitDefEqProofs only [vqa, Nat.reduceEqDiff, Nat.reduceAdd, reduceIte, Nat.reduceLeDiff, Nat.reduceBEq, Nat.reduceLT, Nat.reduceSub, Int.reduceLT, Int.reduceLE, Int.reduceEq, Int.reduceToNat, Nat.reduceMul, eq_self, implies_true, forall_const, opsC, opsN, h2, hm2, h8, h9', h5, hm, w1, hgi, i0, g3 i hi, wA, wB]
          refine ⟨by omega, by decide, by omega, by decide, by omega, by omega, by omega, by omega, i, by omega, d + 1, by omega, wI (by omega) (by omega), _, rfl, fun k hk => ?_⟩
          rw [cE, hb, if_pos rfl]
          by_cases e1 : k = ndx (G.B i)
          · simp only [e1, decide_true, cond_true, Bool.or_true]
          · by_cases e2 : k = ndx (G.A i)
            · simp only [e1, e2, decide_false, cond_false, decide_true, cond_true, Bool.true_or, Bool.or_true]
              cases decide (ndx (G.A i) = ndx (G.B i)) <;> rfl
            · simp only [e1, e2, decide_false, cond_false, Bool.or_false]
              exact hg k hk

end Go.Ab
