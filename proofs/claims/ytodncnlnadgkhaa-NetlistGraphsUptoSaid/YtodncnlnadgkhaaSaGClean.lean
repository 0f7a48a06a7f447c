/- Walks: Clean of graphs. -/
import Derived.Test.YtodncnlnadgkhaaSaGCon0
import Derived.Test.YtodncnlnadgkhaaSaGMoved
import Derived.Test.YtodncnlnadgkhaaSaGNil
set_option linter.unusedSimpArgs false
set_option linter.unusedVariables false
namespace Go.Ab
open Go
def a103_0 : AC := (.seq (.ops [⟨(some 28), none, (.v (.bin .lss (.t 27) (.t 26)))⟩]) (.seq (.cond (.t 28) .skip (.exit 0)) (.seq (.block 1 (.seq (.ops [⟨(some 29), none, (.v (.mv (.t 27)))⟩, ⟨(some 11), none, (.v (.mv (.t 29)))⟩]) (.block 2 (.seq (.ops [⟨(some 37), none, (.v (.mv (.t 11)))⟩, ⟨(some 38), none, (.v (.mv (.t 7)))⟩, ⟨(some 39), none, (.v (.bin .lss (.t 37) (.t 38)))⟩, ⟨(some 36), none, (.v (.mv (.t 39)))⟩]) (.cond (.t 36) (.ops [⟨(some 40), none, (.v (.mv (.t 9)))⟩, ⟨(some 41), none, (.v (.mv (.t 11)))⟩, ⟨(some 42), none, (.v (.bin .mul (.c (.int .i64 2)) (.t 41)))⟩, ⟨(some 43), none, (.e (.lit 43 108 1 1 [(.int .i64 0)] [(0, (.t 42))]))⟩, ⟨(some 44), none, (.e (.app 44 108 1 8 (.t 40) (.t 43)))⟩, ⟨(some 45), none, (.v (.mv (.t 10)))⟩, ⟨(some 46), none, (.v (.mv (.t 11)))⟩, ⟨(some 47), none, (.e (.lit 47 3 1 1 [(.int .i64 0)] [(0, (.t 46))]))⟩, ⟨(some 48), none, (.e (.app 48 3 1 8 (.t 45) (.t 47)))⟩, ⟨(some 9), none, (.v (.mv (.t 44)))⟩, ⟨(some 10), none, (.v (.mv (.t 48)))⟩]) (.seq (.ops [⟨(some 50), none, (.v (.mv (.t 6)))⟩, ⟨(some 51), none, (.v (.mv (.t 11)))⟩, ⟨(some 52), none, (.v (.idx 1 (.t 50) (.t 51)))⟩, ⟨(some 53), none, (.v (.load 1 false (.t 52)))⟩, ⟨(some 49), none, (.v (.mv (.t 53)))⟩]) (.cond (.t 49) (.seq (.ops [⟨(some 54), none, (.v (.fld 3 (.t 1)))⟩, ⟨(some 55), none, (.v (.load 1 false (.t 54)))⟩, ⟨(some 56), none, (.v (.mv (.t 11)))⟩, ⟨(some 57), none, (.v (.mv (.t 7)))⟩, ⟨(some 58), none, (.v (.bin .sub (.t 56) (.t 57)))⟩, ⟨(some 59), none, (.v (.idx 2 (.t 55) (.t 58)))⟩, ⟨(some 60), none, (.v (.load 2 true (.t 59)))⟩, ⟨(some 12), none, (.e (.alloc 12 [(.int .i64 0), (.int .i64 0)]))⟩, ⟨none, none, (.e (.store 2 (.t 12) (.t 60)))⟩]) (.seq (.ops [⟨(some 61), none, (.v (.mv (.t 9)))⟩, ⟨(some 62), none, (.v (.mv (.t 7)))⟩, ⟨(some 63), none, (.v (.mv (.t 8)))⟩, ⟨(some 64), none, (.v (.len (.t 63)))⟩, ⟨(some 65), none, (.v (.bin .add (.t 62) (.t 64)))⟩, ⟨(some 66), none, (.v (.bin .mul (.c (.int .i64 2)) (.t 65)))⟩, ⟨(some 67), none, (.e (.lit 67 108 1 1 [(.int .i64 0)] [(0, (.t 66))]))⟩, ⟨(some 68), none, (.e (.app 68 108 1 8 (.t 61) (.t 67)))⟩, ⟨(some 69), none, (.v (.mv (.t 10)))⟩, ⟨(some 70), none, (.v (.mv (.t 7)))⟩, ⟨(some 71), none, (.v (.mv (.t 8)))⟩, ⟨(some 72), none, (.v (.len (.t 71)))⟩, ⟨(some 73), none, (.v (.bin .add (.t 70) (.t 72)))⟩, ⟨(some 74), none, (.e (.lit 74 3 1 1 [(.int .i64 0)] [(0, (.t 73))]))⟩, ⟨(some 75), none, (.e (.app 75 3 1 8 (.t 69) (.t 74)))⟩, ⟨(some 9), none, (.v (.mv (.t 68)))⟩, ⟨(some 10), none, (.v (.mv (.t 75)))⟩]) (.any [⟨(some 76), none, (.v (.mv (.t 8)))⟩, ⟨(some 77), none, (.v (.mv (.t 9)))⟩, ⟨(some 78), none, (.v (.fld 0 (.t 12)))⟩, ⟨(some 79), none, (.v (.load 1 false (.t 78)))⟩, ⟨(some 80), none, (.v (.bin .quo (.t 79) (.c (.int .i64 2))))⟩, ⟨(some 81), none, (.v (.idx 1 (.t 77) (.t 80)))⟩, ⟨(some 82), none, (.v (.load 1 false (.t 81)))⟩, ⟨(some 83), none, (.v (.fld 0 (.t 12)))⟩, ⟨(some 84), none, (.v (.load 1 false (.t 83)))⟩, ⟨(some 85), none, (.v (.bin .rem (.t 84) (.c (.int .i64 2))))⟩, ⟨(some 86), none, (.v (.bin .xor (.t 82) (.t 85)))⟩, ⟨(some 87), none, (.v (.mv (.t 9)))⟩, ⟨(some 88), none, (.v (.fld 1 (.t 12)))⟩, ⟨(some 89), none, (.v (.load 1 false (.t 88)))⟩, ⟨(some 90), none, (.v (.bin .quo (.t 89) (.c (.int .i64 2))))⟩, ⟨(some 91), none, (.v (.idx 1 (.t 87) (.t 90)))⟩, ⟨(some 92), none, (.v (.load 1 false (.t 91)))⟩, ⟨(some 93), none, (.v (.fld 1 (.t 12)))⟩, ⟨(some 94), none, (.v (.load 1 false (.t 93)))⟩, ⟨(some 95), none, (.v (.bin .rem (.t 94) (.c (.int .i64 2))))⟩, ⟨(some 96), none, (.v (.bin .xor (.t 92) (.t 95)))⟩, ⟨(some 97), none, (.v (.build [(.int .i64 0), (.int .i64 0)] [(0, (1, (.t 86))), (1, (1, (.t 96)))]))⟩, ⟨(some 98), none, (.e (.lit 98 163 2 1 [(.int .i64 0), (.int .i64 0)] [(0, (.t 97))]))⟩, ⟨(some 99), none, (.e (.app 99 163 2 16 (.t 76) (.t 98)))⟩, ⟨(some 8), none, (.v (.mv (.t 99)))⟩] [[], [], [], [2], [3], [1, 4], [5], [], [7], [8], [6, 9], [], [], [12], [13], [11, 14], [15], [], [17], [18], [16, 19], [10, 20], [21], [0, 22], [23, 23, 0, 1, 2, 3, 4, 5, 6, 7, 8, 9, 10, 11, 12, 13, 14, 15, 16, 17, 18, 19, 20, 21, 22, 23]]))) (.ops [⟨(some 30), none, (.v (.mv (.t 9)))⟩, ⟨(some 31), none, (.e (.lit 31 108 1 1 [(.int .i64 0)] [(0, (.c (.int .i64 0)))]))⟩, ⟨(some 32), none, (.e (.app 32 108 1 8 (.t 30) (.t 31)))⟩, ⟨(some 33), none, (.v (.mv (.t 10)))⟩, ⟨(some 34), none, (.e (.lit 34 3 1 1 [(.int .i64 0)] [(0, (.c (.int .i64 (-1))))]))⟩, ⟨(some 35), none, (.e (.app 35 3 1 8 (.t 33) (.t 34)))⟩, ⟨(some 9), none, (.v (.mv (.t 32)))⟩, ⟨(some 10), none, (.v (.mv (.t 35)))⟩])))))))) (.ops [⟨(some 100), none, (.v (.bin .add (.t 27) (.c (.int .i64 1))))⟩, ⟨(some 27), none, (.v (.mv (.t 100)))⟩]))))
def a103 : AC := (.seq (.ops [⟨(some 1), none, (.e (.box 1 0 (.t 0)))⟩, ⟨(some 2), none, (.e (.alloc 2 [.cap0, .cap0, .cap0, .cap0, .cap0]))⟩, ⟨(some 3), none, (.v (.mv (.c .cap0)))⟩, ⟨(some 4), none, (.v (.mv (.c (.int .i64 0))))⟩]) (.seq (.seq (.ops [⟨(some 13), none, (.v (.load 5 true (.t 1)))⟩, ⟨(some 14), none, (.call (.c (.fn 115 [])) [(.t 13)])⟩, ⟨(some 5), none, (.v (.mv (.t 14)))⟩]) (.seq (.ops [⟨(some 15), none, (.v (.mv (.t 5)))⟩, ⟨(some 16), none, (.v (.bin .neq (.t 15) (.c (.int .i64 0))))⟩]) (.cond (.t 16) (.seq (.ops [⟨(some 17), none, (.v (.build [.cap0, .cap0, .cap0, .cap0, .cap0] []))⟩, ⟨(some 18), none, (.v (.mv (.t 5)))⟩, ⟨none, none, (.e (.store 5 (.t 2) (.t 17)))⟩, ⟨(some 3), none, (.v (.mv (.c .cap0)))⟩, ⟨(some 4), none, (.v (.mv (.t 18)))⟩]) .ret) .skip))) (.seq (.any [⟨(some 19), none, (.v (.load 5 true (.t 1)))⟩, ⟨(some 20), none, (.v (.load 5 true (.t 1)))⟩, ⟨(some 21), none, (.call (.c (.fn 140 [])) [(.t 20)])⟩, ⟨(some 22), none, (.call (.c (.fn 139 [])) [(.t 19), (.t 21)])⟩, ⟨(some 6), none, (.v (.mv (.t 22)))⟩] [[], [], [1], [0, 2, 2], [3, 3, 0, 1, 2, 3]]) (.seq (.ops [⟨(some 23), none, (.v (.load 5 true (.t 1)))⟩, ⟨(some 24), none, (.call (.c (.fn 141 [])) [(.t 23)])⟩, ⟨(some 7), none, (.v (.mv (.t 24)))⟩]) (.seq (.ops [⟨(some 8), none, (.v (.mv (.c .cap0)))⟩]) (.seq (.ops [⟨(some 9), none, (.v (.mv (.c .cap0)))⟩]) (.seq (.ops [⟨(some 10), none, (.v (.mv (.c .cap0)))⟩]) (.seq (.seq (.ops [⟨(some 25), none, (.v (.mv (.t 6)))⟩, ⟨(some 26), none, (.v (.len (.t 25)))⟩, ⟨(some 27), none, (.v (.mv (.c (.int .i64 0))))⟩]) (.block 0 (.loop a103_0))) (.seq (.ops [⟨(some 101), none, (.v (.load 5 true (.t 1)))⟩, ⟨(some 102), none, (.v (.mv (.t 8)))⟩, ⟨(some 103), none, (.v (.mv (.t 9)))⟩, ⟨(some 104), none, (.call (.c (.fn 142 [])) [(.t 101), (.t 102), (.t 103)])⟩, ⟨(some 105), none, (.v (.mv (.t 10)))⟩, ⟨none, none, (.e (.store 5 (.t 2) (.t 104)))⟩, ⟨(some 3), none, (.v (.mv (.t 105)))⟩, ⟨(some 4), none, (.v (.mv (.c (.int .i64 0))))⟩]) .ret)))))))))
def r103 : List AI := [(.load 5 true (.t 2)), (.mv (.t 3)), (.mv (.t 4))]
theorem f103 : Fn PP 103 1 a103 r103 := Fn.of (fn := Go.Proofs.Try.f103) (by kernel_rfl) (by kernel_rfl) (by kernel_rfl)
/-- An and of the graph that is left. -/
def nodK (G : Gra) (b : Nat → Bool) (j : Nat) : AV := .agg [.int .i64 (litK G b (G.A j)), .int .i64 (litK G b (G.B j))]
theorem selK_of {G : Gra} {b : Nat → Bool} {j : Nat} (hb : b (G.base + j) = true) (hj : j < G.na) : selK G b G.na (cntK G b j) = j := selK_cnt hb _ hj

/-- The two lists of numbers that grow side by side. -/
def PlA (i : Nat) (p q : Nat → Int) (v w : AV) (m : Mem) : Prop := (i = 0 ∧ v = .cap0 ∧ w = .cap0) ∨ ∃ V g V2 g2, v = .sl 44 V i ∧ m 44 = .row V 108 1 i g ∧ w = .sl 48 V2 i ∧ m 48 = .row V2 3 1 i g2 ∧ (∀ k, k < i → g k = .int .i64 (p k)) ∧ ∀ k, k < i → g2 k = .int .i64 (q k)
theorem p103 {G : Gra} {cs : List AV} (hG : GraC cs G) (ok : G.Ok) : Pure PP 103 [.agg cs] fun r => ∃ ds n f, r = .tup [.agg ds, .fs n f, .int .i64 (graphF G)] ∧ (graphF G ≠ 0 → n = 0 ∧ ∃ h0 h1 h2 h3 h4, ds = [.fs 0 h0, .fs 0 h1, .fs 0 h2, .fs 0 h3, .fs 0 h4]) ∧
    (graphF G = 0 → GraC ds (cleanG G (keepB G (G.nk + G.nr) (rootAt G))) ∧ n = G.nodes ∧ ∀ k, k < n → f k = .int .i64 (plcK G (keepB G (G.nk + G.nr) (rootAt G)) k)) := by
  have hG0 := hG
  obtain ⟨f0, f1, f2, f3, f4, rfl, g0, g1, g2, g3, g4⟩ := hG
  refine Fn.pure fmix f103 ?_
  unfold a103 r103
  simp -implicitDefEqProofs only [vqa, Nat.reduceEqDiff, Nat.reduceAdd, reduceIte, Nat.reduceLeDiff, Nat.reduceBEq, Nat.reduceLT, Nat.reduceSub, Int.reduceLT, Int.reduceLE, Int.reduceEq, Int.reduceToNat, Nat.reduceMul, eq_self, implies_true, forall_const]
  refine CallW.sc (p115 hG0 ok) rfl ⟨⟨trivial, trivial, trivial, trivial, trivial, trivial⟩, trivial⟩ fun r hr => ⟨by subst hr; rfl, ?_⟩
  subst hr
  simp -implicitDefEqProofs only [vqa, Nat.reduceEqDiff, Nat.reduceAdd, reduceIte, Nat.reduceLeDiff, Nat.reduceBEq, Nat.reduceLT, Nat.reduceSub, Int.reduceLT, Int.reduceLE, Int.reduceEq, Int.reduceToNat, Nat.reduceMul, eq_self, implies_true, forall_const]
  refine ⟨fun k1 => ⟨_, _, _, rfl, fun _ => ⟨rfl, _, _, _, _, _, rfl⟩, fun h => absurd h k1⟩, fun k1 => ?_⟩
  have hz : graphF G = 0 := Classical.not_not.1 k1
  have gd := good_of hz
  have b1 := gd.ni; have b2 := gd.nr; have b3 := gd.na; have b4 := gd.no; have b5 := gd.nk
  have hbE : G.base = 1 + G.ni + G.nr := rfl
  have hnE : G.nodes = G.base + G.na := rfl
  rw [hz]
  refine vAny [0, 1, 2, 3, 4] 5 allL (by kernel_rfl) (by kernel_rfl) ?_
  simp -implicitDefEqProofs only [vqa, Nat.reduceEqDiff, Nat.reduceAdd, reduceIte, Nat.reduceLeDiff, Nat.reduceBEq, Nat.reduceLT, Nat.reduceSub, Int.reduceLT, Int.reduceLE, Int.reduceEq, Int.reduceToNat, Nat.reduceMul, eq_self, implies_true, forall_const]
  refine CallW.fz (p140 hG0 ok) rfl rfl fun r ⟨q, hr, hq⟩ => ⟨by subst hr; rfl, ?_⟩
  subst hr
  simp -implicitDefEqProofs only [vqa, Nat.reduceEqDiff, Nat.reduceAdd, reduceIte, Nat.reduceLeDiff, Nat.reduceBEq, Nat.reduceLT, Nat.reduceSub, Int.reduceLT, Int.reduceLE, Int.reduceEq, Int.reduceToNat, Nat.reduceMul, eq_self, implies_true, forall_const]
  refine CallW.fz (p139 hG0 ok gd (G.nk + G.nr) (rootAt G) q hq (root_ok gd) (by omega)) rfl rfl fun r ⟨fn, hr, hfn⟩ => ⟨by subst hr; rfl, ?_⟩
  subst hr
  have hAB : ∀ j, j < G.na → keepB G (G.nk + G.nr) (rootAt G) (G.base + j) = true → True := fun _ _ _ => trivial
  generalize hbd : keepB G (G.nk + G.nr) (rootAt G) = b at *
  simp -implicitDefEqProofs only [vqa, Nat.reduceEqDiff, Nat.reduceAdd, reduceIte, Nat.reduceLeDiff, Nat.reduceBEq, Nat.reduceLT, Nat.reduceSub, Int.reduceLT, Int.reduceLE, Int.reduceEq, Int.reduceToNat, Nat.reduceMul, eq_self, implies_true, forall_const]
  refine CallW.sc (p141 hG0 ok) rfl ⟨⟨trivial, trivial, trivial, trivial, trivial, trivial⟩, trivial⟩ fun r hr => ⟨by subst hr; rfl, ?_⟩
  subst hr
  simp -implicitDefEqProofs only [vqa, Nat.reduceEqDiff, Nat.reduceAdd, reduceIte, Nat.reduceLeDiff, Nat.reduceBEq, Nat.reduceLT, Nat.reduceSub, Int.reduceLT, Int.reduceLE, Int.reduceEq, Int.reduceToNat, Nat.reduceMul, eq_self, implies_true, forall_const]
  generalize (mem0 1).ver + 1 = V1
  generalize (mem0 2).ver + 1 = V2
  refine vFor G.nodes (fun i e m => e 1 = .ptr 1 V1 0 ∧ m 1 = .var V1 [.fs G.ni f0, .fs G.no f1, .fs G.nr f2, .fs G.na f3, .fs G.nk f4] ∧ e 2 = .ptr 2 V2 0 ∧ m 2 = .var V2 [.cap0, .cap0, .cap0, .cap0, .cap0] ∧ e 6 = .fs G.nodes fn ∧ e 7 = .int .i64 (G.base : Nat) ∧ e 26 = .int .i64 G.nodes ∧ e 27 = .int .i64 i ∧ Acc 99 163 2 (cntK G b (i - G.base)) (fun j a => a = nodK G b (selK G b G.na j)) (e 8) m ∧ PlA i (toK G b) (plcK G b) (e 9) (e 10) m) ?_ ?_ ?_
  · simp -implicitDefEqProofs only [vqa, Nat.reduceEqDiff, Nat.reduceAdd, reduceIte, Nat.reduceLeDiff, Nat.reduceBEq, Nat.reduceLT, Nat.reduceSub, Int.reduceLT, Int.reduceLE, Int.reduceEq, Int.reduceToNat, Nat.reduceMul, eq_self, implies_true, forall_const]
    have : cntK G b (0 - G.base) = 0 := by have := cntK_le G b (0 - G.base); omega
    exact ⟨.inl ⟨this, rfl⟩, .inl ⟨rfl, rfl, rfl⟩⟩
  · rintro i e m hi hi' ⟨h1, m1, h2, m2, h6, h7, h26, h27, hA, hP⟩
    unfold a103_0
    by_cases c1 : i < G.base
    · have c1' : (i : Int) < (G.base : Nat) := by omega
      have e0' : cntK G b (i + 1 - G.base) = cntK G b (i - G.base) := by have := cntK_le G b (i + 1 - G.base); have := cntK_le G b (i - G.base); omega
      have t0 : (2 * (i : Int)) = toK G b i := (if_pos c1).symm
      have q0 : (i : Int) = plcK G b i := (if_pos c1).symm
      have w2 : IntKind.i64.wrap (2 * (i : Int)) = 2 * (i : Int) := wI (by omega) (by omega)
      rcases hP with ⟨hz, h9, h10⟩ | ⟨V, g, U, h, h9, m9, h10, m10, hg, hh⟩
      · simp -implicitDefEqProofs only [vqa, Nat.reduceEqDiff, Nat.reduceAdd, reduceIte, Nat.reduceLeDiff, Nat.reduceBEq, Nat.reduceLT, Nat.reduceSub, Int.reduceLT, Int.reduceLE, Int.reduceEq, Int.reduceToNat, Nat.reduceMul, eq_self, implies_true, forall_const, h1, m1, h2, m2, h6, h7, h9, h10, h26, h27, hi', c1', w2]
        subst hz
        refine ⟨hi, wI (by omega) (by omega), by rw [e0']; exact hA.keep (by simp only [set_at]; rfl), .inr ⟨_, _, _, _, rfl, rfl, rfl, rfl, fun k hk => ?_, fun k hk => ?_⟩⟩
        · obtain rfl : k = 0 := by omega
          exact congrArg _ t0
        · obtain rfl : k = 0 := by omega
          exact congrArg _ q0
      · simp -implicitDefEqProofs only [vqa, Nat.reduceEqDiff, Nat.reduceAdd, reduceIte, Nat.reduceLeDiff, Nat.reduceBEq, Nat.reduceLT, Nat.reduceSub, Int.reduceLT, Int.reduceLE, Int.reduceEq, Int.reduceToNat, Nat.reduceMul, eq_self, implies_true, forall_const, h1, m1, h2, m2, h6, h7, h9, h10, h26, h27, hi', c1', w2, m9, m10]
        exact ⟨⟨by omega, by omega⟩, ⟨by omega, by omega⟩, hi, wI (by omega) (by omega), by rw [e0']; exact hA.keep (by simp only [set_at]; rfl), .inr ⟨_, _, _, _, rfl, rfl, rfl, rfl, pushF (p := fun k => .int .i64 (toK G b k)) hg (congrArg _ t0), pushF (p := fun k => .int .i64 (plcK G b k)) hh (congrArg _ q0)⟩⟩
    · rcases hP with ⟨hz, _, _⟩ | ⟨V, g, U, h, h9, m9, h10, m10, hg, hh⟩
      · omega
      have c1' : ¬ (i : Int) < (G.base : Nat) := by omega
      obtain ⟨j, hj⟩ : ∃ j, i = G.base + j := ⟨i - G.base, by omega⟩
      have hjn : j < G.na := by omega
      have ei : i - G.base = j := by omega
      have ei1 : i + 1 - G.base = j + 1 := by omega
      rw [ei] at hA
      cases hb : b i with
      | false =>
        have hfi := hfn i hi
        rw [hb] at hfi
        have t0 : (0 : Int) = toK G b i := by unfold toK; rw [if_neg c1, hb]; rfl
        have q0 : (-1 : Int) = plcK G b i := by unfold plcK; rw [if_neg c1, hb]; rfl
        have e0' : cntK G b (j + 1) = cntK G b j := by simp only [cntK]; rw [← hj, hb]; rfl
        simp -implicitDefEqProofs only [vqa, Nat.reduceEqDiff, Nat.reduceAdd, reduceIte, Nat.reduceLeDiff, Nat.reduceBEq, Nat.reduceLT, Nat.reduceSub, Int.reduceLT, Int.reduceLE, Int.reduceEq, Int.reduceToNat, Nat.reduceMul, eq_self, implies_true, forall_const, h1, m1, h2, m2, h6, h7, h9, h10, h26, h27, hi', c1', m9, m10, hfi]
        rw [ei1, e0']
        exact ⟨by omega, ⟨by omega, by omega⟩, ⟨by omega, by omega⟩, hi, wI (by omega) (by omega), hA.keep (by simp only [set_at]; rfl), .inr ⟨_, _, _, _, rfl, rfl, rfl, rfl, pushF (p := fun k => .int .i64 (toK G b k)) hg (congrArg _ t0), pushF (p := fun k => .int .i64 (plcK G b k)) hh (congrArg _ q0)⟩⟩
      | true =>
        have hfi := hfn i hi
        rw [hb] at hfi
        have hc := cntK_le G b j
        have q0 : ((G.base : Nat) : Int) + (cntK G b j : Nat) = plcK G b i := by unfold plcK; rw [if_neg c1, if_pos hb, ei]; omega
        have t0 : 2 * (((G.base : Nat) : Int) + (cntK G b j : Nat)) = toK G b i := by unfold toK; rw [if_neg c1, if_pos hb, ei]; omega
        have e0' : cntK G b (j + 1) = cntK G b j + 1 := by simp only [cntK]; rw [← hj, if_pos hb]
        have w1 : IntKind.i64.wrap ((i : Nat) - ((G.base : Nat) : Int)) = (j : Nat) := by rw [wI (by omega) (by omega)]; omega
        have w3 : IntKind.i64.wrap (((G.base : Nat) : Int) + (cntK G b j : Nat)) = ((G.base : Nat) : Int) + (cntK G b j : Nat) := wI (by omega) (by omega)
        have w4 : IntKind.i64.wrap (2 * (((G.base : Nat) : Int) + (cntK G b j : Nat))) = 2 * (((G.base : Nat) : Int) + (cntK G b j : Nat)) := wI (by omega) (by omega)
        have okA := gd.A j hjn
        have okB := gd.B j hjn
        have okA' : litOk G.nodes (G.A j) := ⟨okA.1, by have := okA.2; omega⟩
        have okB' : litOk G.nodes (G.B j) := ⟨okB.1, by have := okB.2; omega⟩
        have lA := ndx_lt okA
        have lB := ndx_lt okB
        have wA := ndx_quo okA (by omega)
        have wB := ndx_quo okB (by omega)
        have xA := tmod_two okA.1
        have xB := tmod_two okB.1
        have nj : AV.agg [.int .i64 (litK G b (G.A j)), .int .i64 (litK G b (G.B j))] = nodK G b (selK G b G.na (cntK G b j)) := by rw [selK_of (by rw [← hj]; exact hb) hjn]; rfl
        have gA : ∀ g' : Nat → AV, (∀ k, k < i + 1 → g' k = .int .i64 (toK G b k)) → g' (ndx (G.A j)) = .int .i64 (toK G b (ndx (G.A j))) ∧ g' (ndx (G.B j)) = .int .i64 (toK G b (ndx (G.B j))) := fun g' h => ⟨h _ (by omega), h _ (by omega)⟩
        have hg1 := pushF (p := fun k => .int .i64 (toK G b k)) hg (congrArg (AV.int .i64) t0)
        obtain ⟨gA1, gB1⟩ := gA _ hg1
        have q1 : ∀ (m : Mem), restr (twoL 12 44) m 12 = m 12 := fun _ => restr_two1
        have q2 : ∀ (m : Mem), restr (twoL 12 44) m 44 = m 44 := fun _ => restr_two2
        rcases hA with ⟨hz, h8⟩ | ⟨W, ga, h8, m8, hga⟩
        · have z0 : ((cntK G b j : Nat) : Int) = 0 := by rw [hz]; rfl
          rw [z0] at w3 w4 q0 t0 gA1 gB1
          simp only [z0] at hg1
          rw [hz] at nj e0'
          simp -implicitDefEqProofs only [vqa, Nat.reduceEqDiff, Nat.reduceAdd, reduceIte, Nat.reduceLeDiff, Nat.reduceBEq, Nat.reduceLT, Nat.reduceSub, Int.reduceLT, Int.reduceLE, Int.reduceEq, Int.reduceToNat, Nat.reduceMul, eq_self, implies_true, forall_const, h1, m1, h2, m2, h6, h7, h8, h9, h10, h26, h27, hi', c1', m9, m10, hfi, w1, g3 j hjn, w3, w4]
          refine ⟨by omega, ⟨by omega, by omega⟩, ⟨by omega, by omega⟩, ⟨by omega, by omega⟩, ?_⟩
          refine vAny [0, 1, 2, 3, 4, 5, 6, 7, 8, 9, 10, 11, 12, 13, 14, 15, 16, 17, 18, 19, 20, 21, 22, 23, 24] 25 (twoL 12 44) (by kernel_rfl) (by kernel_rfl) ?_
          simp -implicitDefEqProofs only [vqa, Nat.reduceEqDiff, Nat.reduceAdd, reduceIte, Nat.reduceLeDiff, Nat.reduceBEq, Nat.reduceLT, Nat.reduceSub, Int.reduceLT, Int.reduceLE, Int.reduceEq, Int.reduceToNat, Nat.reduceMul, eq_self, implies_true, forall_const, h1, m1, h2, m2, h6, h7, h8, h9, h10, h26, h27, hi', q1, q2, agree_two, wA, wB, xA, xB, gA1, gB1, mvK gd b okA', mvK gd b okB']
          refine ⟨by decide, by omega, by omega, by decide, by decide, by omega, by omega, by decide, hi, wI (by omega) (by omega), ?_, .inr ⟨_, _, _, _, rfl, rfl, rfl, rfl, hg1, pushF (p := fun k => .int .i64 (plcK G b k)) hh (congrArg _ q0)⟩⟩
          rw [ei1, e0']
          exact .first (p := fun j a => a = nodK G b (selK G b G.na j)) nj
        · simp -implicitDefEqProofs only [vqa, Nat.reduceEqDiff, Nat.reduceAdd, reduceIte, Nat.reduceLeDiff, Nat.reduceBEq, Nat.reduceLT, Nat.reduceSub, Int.reduceLT, Int.reduceLE, Int.reduceEq, Int.reduceToNat, Nat.reduceMul, eq_self, implies_true, forall_const, h1, m1, h2, m2, h6, h7, h8, h9, h10, h26, h27, hi', c1', m9, m10, hfi, w1, g3 j hjn, w3, w4, m8]
          refine ⟨by omega, ⟨by omega, by omega⟩, ⟨by omega, by omega⟩, ⟨by omega, by omega⟩, ?_⟩
          refine vAny [0, 1, 2, 3, 4, 5, 6, 7, 8, 9, 10, 11, 12, 13, 14, 15, 16, 17, 18, 19, 20, 21, 22, 23, 24] 25 (twoL 12 44) (by kernel_rfl) (by kernel_rfl) ?_
          simp -implicitDefEqProofs only [vqa, Nat.reduceEqDiff, Nat.reduceAdd, reduceIte, Nat.reduceLeDiff, Nat.reduceBEq, Nat.reduceLT, Nat.reduceSub, Int.reduceLT, Int.reduceLE, Int.reduceEq, Int.reduceToNat, Nat.reduceMul, eq_self, implies_true, forall_const, h1, m1, h2, m2, h6, h7, h8, h9, h10, h26, h27, hi', q1, q2, agree_two, wA, wB, xA, xB, gA1, gB1, mvK gd b okA', mvK gd b okB', m8]
          refine ⟨by decide, by omega, by omega, by decide, by decide, by omega, by omega, by decide, ⟨by omega, by omega⟩, hi, wI (by omega) (by omega), ?_, .inr ⟨_, _, _, _, rfl, rfl, rfl, rfl, hg1, pushF (p := fun k => .int .i64 (plcK G b k)) hh (congrArg _ q0)⟩⟩
          rw [ei1, e0']
          exact .push (p := fun j a => a = nodK G b (selK G b G.na j)) hga nj
  · rintro e m ⟨h1, m1, h2, m2, h6, h7, h26, h27, hA, hP⟩
    rcases hP with ⟨hz, _, _⟩ | ⟨V, g, U, h, h9, m9, h10, m10, hg, hh⟩
    · omega
    have en : G.nodes - G.base = G.na := by omega
    rw [en] at hA
    have hroot : ∀ l, litOk G.nodes l → mvL (toK G b) l = litK G b l := fun l hl => mvK gd b hl
    have fin : ∀ (fa a0 a1 a2 a4 : Nat → AV), (∀ k, k < cntK G b G.na → fa k = nodK G b (selK G b G.na k)) → (∀ i, i < G.ni → a0 i = .str (G.inn i)) → (∀ i, i < G.no → a1 i = .str (G.out i)) →
      (∀ i, i < G.nr → a2 i = .agg [.str (G.reg i).name, .int .i64 (mvL (toK G b) (G.reg i).next), .bool (G.reg i).init]) → (∀ i, i < G.nk → a4 i = .int .i64 (mvL (toK G b) (G.outs i))) →
      GraC [.fs G.ni a0, .fs G.no a1, .fs G.nr a2, .fs (cntK G b G.na) fa, .fs G.nk a4] (cleanG G b) := fun fa a0 a1 a2 a4 ka k0 k1 k2 k4 =>
        ⟨a0, a1, a2, fa, a4, rfl, k0, k1, fun i hi => by rw [k2 i hi, hroot _ (gd.next i hi)]; rfl, fun j hj => by rw [ka j hj]; rfl, fun i hi => by rw [k4 i hi, hroot _ (gd.outs i hi)]; rfl⟩
    unfold a103_0
    rcases hA with ⟨hz, h8⟩ | ⟨W, ga, h8, m8, hga⟩
    · simp -implicitDefEqProofs only [vqa, Nat.reduceEqDiff, Nat.reduceAdd, reduceIte, Nat.reduceLeDiff, Nat.reduceBEq, Nat.reduceLT, Nat.reduceSub, Int.reduceLT, Int.reduceLE, Int.reduceEq, Int.reduceToNat, Nat.reduceMul, eq_self, implies_true, forall_const, h1, m1, h2, m2, h6, h7, h8, h9, h10, h26, h27]
      refine CallW.frz (c := _) (args' := _) (mem' := _) (by simp -implicitDefEqProofs only [vqa, Nat.reduceEqDiff, Nat.reduceAdd, reduceIte, Nat.reduceLeDiff, Nat.reduceBEq, Nat.reduceLT, Nat.reduceSub, Int.reduceLT, Int.reduceLE, Int.reduceEq, Int.reduceToNat, Nat.reduceMul, eq_self, implies_true, forall_const, m9]; rfl) ?_ ?_
      · simp -implicitDefEqProofs only [vqa, Nat.reduceEqDiff, Nat.reduceAdd, reduceIte, Nat.reduceLeDiff, Nat.reduceBEq, Nat.reduceLT, Nat.reduceSub, Int.reduceLT, Int.reduceLE, Int.reduceEq, Int.reduceToNat, Nat.reduceMul, eq_self, implies_true, forall_const]
      refine CallW.fz (p142 hG0 ok gd 0 (fun _ => .undef) (toK G b) g hg) rfl rfl fun r ⟨a0, a1, a2, a4, hr, k0, k1, k2, k4⟩ => ⟨by subst hr; rfl, ?_⟩
      subst hr
      simp -implicitDefEqProofs only [vqa, Nat.reduceEqDiff, Nat.reduceAdd, reduceIte, Nat.reduceLeDiff, Nat.reduceBEq, Nat.reduceLT, Nat.reduceSub, Int.reduceLT, Int.reduceLE, Int.reduceEq, Int.reduceToNat, Nat.reduceMul, eq_self, implies_true, forall_const, h1, m1, h2, m2, h6, h7, h8, h9, h10, h26, h27, m10]
      exact ⟨_, _, _, rfl, fun h => absurd rfl h, hz ▸ fin (fun _ => .undef) a0 a1 a2 a4 (fun k hk => absurd hk (by omega)) k0 k1 k2 k4, rfl, hh⟩
    · simp -implicitDefEqProofs only [vqa, Nat.reduceEqDiff, Nat.reduceAdd, reduceIte, Nat.reduceLeDiff, Nat.reduceBEq, Nat.reduceLT, Nat.reduceSub, Int.reduceLT, Int.reduceLE, Int.reduceEq, Int.reduceToNat, Nat.reduceMul, eq_self, implies_true, forall_const, h1, m1, h2, m2, h6, h7, h8, h9, h10, h26, h27]
      refine CallW.frz (c := _) (args' := _) (mem' := _) (by simp -implicitDefEqProofs only [vqa, Nat.reduceEqDiff, Nat.reduceAdd, reduceIte, Nat.reduceLeDiff, Nat.reduceBEq, Nat.reduceLT, Nat.reduceSub, Int.reduceLT, Int.reduceLE, Int.reduceEq, Int.reduceToNat, Nat.reduceMul, eq_self, implies_true, forall_const, m9, m8]; rfl) ?_ ?_
      · simp -implicitDefEqProofs only [vqa, Nat.reduceEqDiff, Nat.reduceAdd, reduceIte, Nat.reduceLeDiff, Nat.reduceBEq, Nat.reduceLT, Nat.reduceSub, Int.reduceLT, Int.reduceLE, Int.reduceEq, Int.reduceToNat, Nat.reduceMul, eq_self, implies_true, forall_const]
      refine CallW.fz (p142 hG0 ok gd (cntK G b G.na) ga (toK G b) g hg) rfl rfl fun r ⟨a0, a1, a2, a4, hr, k0, k1, k2, k4⟩ => ⟨by subst hr; rfl, ?_⟩
      subst hr
      simp -implicitDefEqProofs only [vqa, Nat.reduceEqDiff, Nat.reduceAdd, reduceIte, Nat.reduceLeDiff, Nat.reduceBEq, Nat.reduceLT, Nat.reduceSub, Int.reduceLT, Int.reduceLE, Int.reduceEq, Int.reduceToNat, Nat.reduceMul, eq_self, implies_true, forall_const, h1, m1, h2, m2, h6, h7, h8, h9, h10, h26, h27, m10]
      exact ⟨_, _, _, rfl, fun h => absurd rfl h, fin ga a0 a1 a2 a4 hga k0 k1 k2 k4, rfl, hh⟩
end Go.Ab
