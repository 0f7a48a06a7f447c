/- Walk: the graph of a netlist. -/
import Derived.Test.YtodncnlnadgkhaaLwNGr
import Derived.Test.YtodncnlnadgkhaaSaMak5
import Derived.Test.YtodncnlnadgkhaaSaGClean
import Derived.Test.YtodncnlnadgkhaaSaForm
import Derived.Test.YtodncnlnadgkhaaFwZ
import Derived.Test.YtodncnlnadgkhaaSaGNil
set_option linter.unusedSimpArgs false
set_option linter.unusedVariables false
namespace Go.Ab
open Go
def a53_0 : AC := (.seq (.ops [⟨(some 34), none, (.v (.bin .lss (.t 33) (.t 32)))⟩]) (.seq (.cond (.t 34) .skip (.exit 0)) (.seq (.block 1 (.seq (.ops [⟨(some 35), none, (.v (.idx 5 (.t 31) (.t 33)))⟩, ⟨(some 36), none, (.v (.load 5 true (.t 35)))⟩, ⟨(some 7), none, (.e (.alloc 7 [(.str ⟨#[]⟩), (.int .i64 0), (.int .i64 0), (.int .i64 0), (.bool false)]))⟩, ⟨none, none, (.e (.store 5 (.t 7) (.t 36)))⟩]) (.ops [⟨(some 37), none, (.v (.mv (.t 5)))⟩, ⟨(some 38), none, (.v (.fld 0 (.t 7)))⟩, ⟨(some 39), none, (.v (.load 1 false (.t 38)))⟩, ⟨(some 40), none, (.v (.fld 4 (.t 7)))⟩, ⟨(some 41), none, (.v (.load 1 false (.t 40)))⟩, ⟨(some 42), none, (.v (.build [(.str ⟨#[]⟩), (.int .i64 0), (.bool false)] [(0, (1, (.t 39))), (2, (1, (.t 41)))]))⟩, ⟨(some 43), none, (.e (.lit 43 114 3 1 [(.str ⟨#[]⟩), (.int .i64 0), (.bool false)] [(0, (.t 42))]))⟩, ⟨(some 44), none, (.e (.app 44 114 3 32 (.t 37) (.t 43)))⟩, ⟨(some 5), none, (.v (.mv (.t 44)))⟩]))) (.ops [⟨(some 45), none, (.v (.bin .add (.t 33) (.c (.int .i64 1))))⟩, ⟨(some 33), none, (.v (.mv (.t 45)))⟩]))))
def a53_1 : AC := (.seq (.ops [⟨(some 55), none, (.v (.bin .lss (.t 54) (.t 53)))⟩]) (.seq (.cond (.t 55) .skip (.exit 2)) (.seq (.block 3 (.seq (.ops [⟨(some 56), none, (.v (.mv (.t 54)))⟩, ⟨(some 10), none, (.v (.mv (.t 56)))⟩]) (.ops [⟨(some 57), none, (.v (.mv (.t 9)))⟩, ⟨(some 58), none, (.v (.mv (.t 10)))⟩, ⟨(some 59), none, (.v (.bin .add (.c (.int .i64 1)) (.t 58)))⟩, ⟨(some 60), none, (.call (.c (.fn 98 [])) [(.t 59), (.c (.bool false))])⟩, ⟨(some 61), none, (.e (.lit 61 108 1 1 [(.int .i64 0)] [(0, (.t 60))]))⟩, ⟨(some 62), none, (.e (.app 62 108 1 8 (.t 57) (.t 61)))⟩, ⟨(some 9), none, (.v (.mv (.t 62)))⟩]))) (.ops [⟨(some 63), none, (.v (.bin .add (.t 54) (.c (.int .i64 1))))⟩, ⟨(some 54), none, (.v (.mv (.t 63)))⟩]))))
def a53_3 : AC := (.seq (.ops [⟨(some 75), none, (.v (.bin .lss (.t 74) (.t 73)))⟩]) (.seq (.cond (.t 75) .skip (.exit 6)) (.seq (.block 7 (.seq (.ops [⟨(some 76), none, (.v (.idx 1 (.t 72) (.t 74)))⟩, ⟨(some 77), none, (.v (.load 1 false (.t 76)))⟩, ⟨(some 15), none, (.v (.mv (.t 77)))⟩]) (.ops [⟨(some 78), none, (.v (.mv (.t 13)))⟩, ⟨(some 79), none, (.v (.mv (.t 9)))⟩, ⟨(some 80), none, (.v (.mv (.t 15)))⟩, ⟨(some 81), none, (.v (.idx 1 (.t 79) (.t 80)))⟩, ⟨(some 82), none, (.v (.load 1 false (.t 81)))⟩, ⟨(some 83), none, (.e (.lit 83 108 1 1 [(.int .i64 0)] [(0, (.t 82))]))⟩, ⟨(some 84), none, (.e (.app 84 108 1 8 (.t 78) (.t 83)))⟩, ⟨(some 13), none, (.v (.mv (.t 84)))⟩]))) (.ops [⟨(some 85), none, (.v (.bin .add (.t 74) (.c (.int .i64 1))))⟩, ⟨(some 74), none, (.v (.mv (.t 85)))⟩]))))
def a53_2 : AC := (.seq (.ops [⟨(some 68), none, (.v (.bin .lss (.t 67) (.t 66)))⟩]) (.seq (.cond (.t 68) .skip (.exit 4)) (.seq (.block 5 (.seq (.ops [⟨(some 69), none, (.v (.idx 3 (.t 65) (.t 67)))⟩, ⟨(some 70), none, (.v (.load 3 true (.t 69)))⟩, ⟨(some 12), none, (.e (.alloc 12 [(.int .i64 0), (.int .u64 0), .cap0]))⟩, ⟨none, none, (.e (.store 3 (.t 12) (.t 70)))⟩]) (.seq (.ops [⟨(some 13), none, (.v (.mv (.c .cap0)))⟩]) (.seq (.seq (.ops [⟨(some 71), none, (.v (.fld 2 (.t 12)))⟩, ⟨(some 72), none, (.v (.load 1 false (.t 71)))⟩, ⟨(some 73), none, (.v (.len (.t 72)))⟩, ⟨(some 74), none, (.v (.mv (.c (.int .i64 0))))⟩]) (.block 6 (.loop a53_3))) (.ops [⟨(some 86), none, (.v (.mv (.t 9)))⟩, ⟨(some 87), none, (.v (.mv (.t 8)))⟩, ⟨(some 88), none, (.v (.fld 1 (.t 12)))⟩, ⟨(some 89), none, (.v (.load 1 false (.t 88)))⟩, ⟨(some 90), none, (.v (.mv (.t 13)))⟩, ⟨(some 91), none, (.call (.c (.fn 99 [])) [(.t 87), (.t 89), (.t 90)])⟩, ⟨(some 92), none, (.e (.lit 92 108 1 1 [(.int .i64 0)] [(0, (.t 91))]))⟩, ⟨(some 93), none, (.e (.app 93 108 1 8 (.t 86) (.t 92)))⟩, ⟨(some 9), none, (.v (.mv (.t 93)))⟩]))))) (.ops [⟨(some 94), none, (.v (.bin .add (.t 67) (.c (.int .i64 1))))⟩, ⟨(some 67), none, (.v (.mv (.t 94)))⟩]))))
def a53_4 : AC := (.seq (.ops [⟨(some 99), none, (.v (.bin .lss (.t 98) (.t 97)))⟩]) (.seq (.cond (.t 99) .skip (.exit 8)) (.seq (.block 9 (.seq (.ops [⟨(some 100), none, (.v (.idx 1 (.t 96) (.t 98)))⟩, ⟨(some 101), none, (.v (.load 1 false (.t 100)))⟩, ⟨(some 19), none, (.v (.mv (.t 101)))⟩]) (.ops [⟨(some 102), none, (.v (.mv (.t 16)))⟩, ⟨(some 103), none, (.v (.mv (.t 9)))⟩, ⟨(some 104), none, (.v (.mv (.t 19)))⟩, ⟨(some 105), none, (.v (.idx 1 (.t 103) (.t 104)))⟩, ⟨(some 106), none, (.v (.load 1 false (.t 105)))⟩, ⟨(some 107), none, (.e (.lit 107 108 1 1 [(.int .i64 0)] [(0, (.t 106))]))⟩, ⟨(some 108), none, (.e (.app 108 108 1 8 (.t 102) (.t 107)))⟩, ⟨(some 16), none, (.v (.mv (.t 108)))⟩]))) (.ops [⟨(some 109), none, (.v (.bin .add (.t 98) (.c (.int .i64 1))))⟩, ⟨(some 98), none, (.v (.mv (.t 109)))⟩]))))
def a53_5 : AC := (.seq (.ops [⟨(some 114), none, (.v (.bin .lss (.t 113) (.t 112)))⟩]) (.seq (.cond (.t 114) .skip (.exit 10)) (.seq (.block 11 (.seq (.ops [⟨(some 115), none, (.v (.mv (.t 113)))⟩, ⟨(some 116), none, (.v (.idx 5 (.t 111) (.t 113)))⟩, ⟨(some 117), none, (.v (.load 5 true (.t 116)))⟩, ⟨(some 21), none, (.e (.alloc 21 [(.str ⟨#[]⟩), (.int .i64 0), (.int .i64 0), (.int .i64 0), (.bool false)]))⟩, ⟨(some 20), none, (.v (.mv (.t 115)))⟩, ⟨none, none, (.e (.store 5 (.t 21) (.t 117)))⟩]) (.any [⟨(some 118), none, (.v (.mv (.t 17)))⟩, ⟨(some 119), none, (.v (.mv (.t 8)))⟩, ⟨(some 120), none, (.v (.mv (.t 9)))⟩, ⟨(some 121), none, (.v (.fld 3 (.t 21)))⟩, ⟨(some 122), none, (.v (.load 1 false (.t 121)))⟩, ⟨(some 123), none, (.v (.idx 1 (.t 120) (.t 122)))⟩, ⟨(some 124), none, (.v (.load 1 false (.t 123)))⟩, ⟨(some 125), none, (.v (.mv (.t 9)))⟩, ⟨(some 126), none, (.v (.fld 2 (.t 21)))⟩, ⟨(some 127), none, (.v (.load 1 false (.t 126)))⟩, ⟨(some 128), none, (.v (.idx 1 (.t 125) (.t 127)))⟩, ⟨(some 129), none, (.v (.load 1 false (.t 128)))⟩, ⟨(some 130), none, (.v (.mv (.t 8)))⟩, ⟨(some 131), none, (.v (.mv (.t 20)))⟩, ⟨(some 132), none, (.call (.c (.fn 101 [])) [(.t 130), (.t 131)])⟩, ⟨(some 133), none, (.call (.c (.fn 100 [])) [(.t 119), (.t 124), (.t 129), (.t 132)])⟩, ⟨(some 134), none, (.e (.lit 134 108 1 1 [(.int .i64 0)] [(0, (.t 133))]))⟩, ⟨(some 135), none, (.e (.app 135 108 1 8 (.t 118) (.t 134)))⟩, ⟨(some 17), none, (.v (.mv (.t 135)))⟩] [[], [], [], [], [3], [2, 4], [5], [], [], [8], [7, 9], [10], [], [], [12, 13], [1, 6, 11, 14, 14], [15], [0, 16, 15], [17, 17, 0, 1, 2, 3, 4, 5, 6, 7, 8, 9, 10, 11, 12, 13, 14, 15, 16, 17]]))) (.ops [⟨(some 136), none, (.v (.bin .add (.t 113) (.c (.int .i64 1))))⟩, ⟨(some 113), none, (.v (.mv (.t 136)))⟩]))))
def a53 : AC := (.seq (.ops [⟨(some 1), none, (.e (.box 1 0 (.t 0)))⟩, ⟨(some 2), none, (.e (.alloc 2 [.cap0, .cap0, .cap0, .cap0, .cap0]))⟩, ⟨(some 3), none, (.v (.mv (.c (.int .i64 0))))⟩]) (.seq (.seq (.ops [⟨(some 24), none, (.v (.load 5 true (.t 1)))⟩, ⟨(some 25), none, (.call (.c (.fn 24 [])) [(.t 24)])⟩, ⟨(some 4), none, (.v (.mv (.t 25)))⟩]) (.seq (.ops [⟨(some 26), none, (.v (.mv (.t 4)))⟩, ⟨(some 27), none, (.v (.bin .neq (.t 26) (.c (.int .i64 0))))⟩]) (.cond (.t 27) (.seq (.ops [⟨(some 28), none, (.v (.build [.cap0, .cap0, .cap0, .cap0, .cap0] []))⟩, ⟨(some 29), none, (.v (.mv (.t 4)))⟩, ⟨none, none, (.e (.store 5 (.t 2) (.t 28)))⟩, ⟨(some 3), none, (.v (.mv (.t 29)))⟩]) .ret) .skip))) (.seq (.ops [⟨(some 5), none, (.v (.mv (.c .cap0)))⟩]) (.seq (.seq (.ops [⟨(some 30), none, (.v (.fld 2 (.t 1)))⟩, ⟨(some 31), none, (.v (.load 1 false (.t 30)))⟩, ⟨(some 32), none, (.v (.len (.t 31)))⟩, ⟨(some 33), none, (.v (.mv (.c (.int .i64 0))))⟩]) (.block 0 (.loop a53_0))) (.seq (.ops [⟨(some 46), none, (.v (.fld 0 (.t 1)))⟩, ⟨(some 47), none, (.v (.load 1 false (.t 46)))⟩, ⟨(some 48), none, (.v (.mv (.t 5)))⟩, ⟨(some 49), none, (.call (.c (.fn 97 [])) [(.t 47), (.t 48)])⟩, ⟨(some 8), none, (.v (.mv (.t 49)))⟩]) (.seq (.ops [⟨(some 50), none, (.e (.lit 50 108 1 2 [(.int .i64 0)] [(0, (.c (.int .i64 0))), (1, (.c (.int .i64 1)))]))⟩, ⟨(some 9), none, (.v (.mv (.t 50)))⟩]) (.seq (.seq (.ops [⟨(some 51), none, (.v (.load 5 true (.t 1)))⟩, ⟨(some 52), none, (.call (.c (.fn 29 [])) [(.t 51)])⟩, ⟨(some 53), none, (.v (.bin .sub (.t 52) (.c (.int .i64 2))))⟩, ⟨(some 54), none, (.v (.mv (.c (.int .i64 0))))⟩]) (.block 2 (.loop a53_1))) (.seq (.seq (.ops [⟨(some 64), none, (.v (.fld 3 (.t 1)))⟩, ⟨(some 65), none, (.v (.load 1 false (.t 64)))⟩, ⟨(some 66), none, (.v (.len (.t 65)))⟩, ⟨(some 67), none, (.v (.mv (.c (.int .i64 0))))⟩]) (.block 4 (.loop a53_2))) (.seq (.ops [⟨(some 16), none, (.v (.mv (.c .cap0)))⟩, ⟨(some 17), none, (.v (.mv (.c .cap0)))⟩]) (.seq (.seq (.ops [⟨(some 95), none, (.v (.fld 4 (.t 1)))⟩, ⟨(some 96), none, (.v (.load 1 false (.t 95)))⟩, ⟨(some 97), none, (.v (.len (.t 96)))⟩, ⟨(some 98), none, (.v (.mv (.c (.int .i64 0))))⟩]) (.block 8 (.loop a53_4))) (.seq (.seq (.ops [⟨(some 110), none, (.v (.fld 2 (.t 1)))⟩, ⟨(some 111), none, (.v (.load 1 false (.t 110)))⟩, ⟨(some 112), none, (.v (.len (.t 111)))⟩, ⟨(some 113), none, (.v (.mv (.c (.int .i64 0))))⟩]) (.block 10 (.loop a53_5))) (.seq (.ops [⟨(some 138), none, (.v (.mv (.t 8)))⟩, ⟨(some 139), none, (.v (.fld 1 (.t 1)))⟩, ⟨(some 140), none, (.v (.load 1 false (.t 139)))⟩, ⟨(some 141), none, (.v (.mv (.t 16)))⟩, ⟨(some 142), none, (.v (.mv (.t 17)))⟩, ⟨(some 143), none, (.call (.c (.fn 102 [])) [(.t 138), (.t 140), (.t 141), (.t 142)])⟩, ⟨(some 137), none, (.v (.mv (.t 143)))⟩, ⟨(some 144), none, (.v (.ext 0 (.t 137)))⟩, ⟨(some 145), none, (.v (.ext 1 (.t 137)))⟩, ⟨(some 22), none, (.e (.alloc 22 [.cap0, .cap0, .cap0, .cap0, .cap0]))⟩, ⟨none, none, (.e (.store 5 (.t 22) (.t 144)))⟩, ⟨(some 23), none, (.v (.mv (.t 145)))⟩]) (.seq (.seq (.ops [⟨(some 146), none, (.v (.mv (.t 23)))⟩, ⟨(some 147), none, (.v (.bin .neq (.t 146) (.c (.int .i64 0))))⟩]) (.cond (.t 147) (.seq (.ops [⟨(some 148), none, (.v (.build [.cap0, .cap0, .cap0, .cap0, .cap0] []))⟩, ⟨(some 149), none, (.v (.mv (.t 23)))⟩, ⟨none, none, (.e (.store 5 (.t 2) (.t 148)))⟩, ⟨(some 3), none, (.v (.mv (.t 149)))⟩]) .ret) .skip)) (.seq (.ops [⟨(some 151), none, (.v (.load 5 true (.t 22)))⟩, ⟨(some 152), none, (.call (.c (.fn 103 [])) [(.t 151)])⟩, ⟨(some 150), none, (.v (.mv (.t 152)))⟩, ⟨(some 153), none, (.v (.ext 0 (.t 150)))⟩, ⟨(some 154), none, (.v (.ext 1 (.t 150)))⟩, ⟨(some 155), none, (.v (.ext 2 (.t 150)))⟩, ⟨none, none, (.e (.store 5 (.t 22) (.t 153)))⟩, ⟨(some 23), none, (.v (.mv (.t 155)))⟩]) (.seq (.ops [⟨(some 156), none, (.v (.load 5 true (.t 22)))⟩, ⟨(some 157), none, (.v (.mv (.t 23)))⟩, ⟨none, none, (.e (.store 5 (.t 2) (.t 156)))⟩, ⟨(some 3), none, (.v (.mv (.t 157)))⟩]) .ret)))))))))))))))
def r53 : List AI := [(.load 5 true (.t 2)), (.mv (.t 3))]
theorem f53 : Fn PP 53 1 a53 r53 := Fn.of (fn := Go.Proofs.Try.f53) (by kernel_rfl) (by kernel_rfl) (by kernel_rfl)
/-- The literals of inputs and flip-flops. -/
def lN (k : Nat) : Int := if k = 0 then 0 else if k = 1 then 1 else 2 * ((k - 1 : Nat) : Int)
theorem lN_up (i : Nat) : lN (2 + i) = 2 * ((1 + i : Nat) : Int) := by
  unfold lN
  rw [if_neg (by omega), if_neg (by omega), show 2 + i - 1 = 1 + i by omega]
theorem _root_.Go.Ab.Acc.frz {s e sz n : Nat} {p : Nat → AV → Prop} {v : AV} {m : Mem} (h : Acc s e sz n p v m) : ∃ c v' m', frzA v m = some (c, v', m') ∧ c ∧ (∃ f, wk v' = .fs n f ∧ ∀ j, j < n → p j (f j)) ∧ ∀ o, o ≠ s → m' o = m o := by
  rcases h with ⟨rfl, rfl⟩ | ⟨ver, g, rfl, h3, h4⟩
  · exact ⟨_, _, _, rfl, trivial, ⟨_, rfl, fun j hj => absurd hj (Nat.not_lt_zero _)⟩, fun _ _ => rfl⟩
  · refine ⟨True, .fs n g, Mem.set s (.dead (ver + 1)) m, ?_, trivial, ⟨g, rfl, h4⟩, fun o ho => set_ne ho _ _⟩
    show frz0 m (.sl s ver n) = _
    simp only [frz0, h3]
set_option maxHeartbeats 4000000 in
theorem p53 {N : Net} {cs : List AV} (hN : NetC cs N) (ok : N.Ok) : Pure PP 53 [.agg cs] fun r => ∃ ds e, r = .tup [.agg ds, .int .i64 e] ∧ (e ≠ 0 → ∃ h0 h1 h2 h3 h4, ds = [.fs 0 h0, .fs 0 h1, .fs 0 h2, .fs 0 h3, .fs 0 h4]) ∧ (formF N ≠ 0 → e = formF N) ∧
    (formF N = 0 → (e = 3 ∧ 4000 < budN N N.ng + 3 * N.nf) ∨ (e = 0 ∧ ∃ G, GraC ds G ∧ G.Ok ∧ graphF G = 0 ∧ SameV N G)) := by
  have p24c := p24 hN ok
  have p29c := p29 hN ok
  have hN0 := hN
  obtain ⟨f0, f1, f2, f3, f4, rfl, c0, c1, c2, c3, c4⟩ := hN
  have hni := ok.ni; have hno := ok.no; have hnf := ok.nf; have hng := ok.ng; have hnk := ok.nk
  refine Fn.pure fmix f53 ?_
  unfold a53 r53
  simp -implicitDefEqProofs only [vqa, Nat.reduceEqDiff, Nat.reduceAdd, reduceIte, Nat.reduceLeDiff, Nat.reduceBEq, Nat.reduceLT, Nat.reduceSub, Int.reduceLT, Int.reduceLE, Int.reduceEq, Int.reduceToNat, Nat.reduceMul, eq_self, implies_true, forall_const]
  generalize (mem0 1).ver + 1 = V1
  generalize (mem0 2).ver + 1 = V2
  refine CallW.sc p24c ?_ ?_ fun r hr => ⟨by subst hr; rfl, ?_⟩
  · simp only [rsC, rs2, rs1, rs0, vqa, Nat.reduceEqDiff, Nat.reduceAdd, reduceIte, Nat.reduceLeDiff, Nat.reduceBEq, Nat.reduceLT, Nat.reduceSub, Int.reduceLT, Int.reduceLE, Int.reduceEq, Int.reduceToNat, Nat.reduceMul, eq_self, implies_true, forall_const] <;> rfl
  · simp only [rsC, rs2, rs1, rs0, vqa, Nat.reduceEqDiff, Nat.reduceAdd, reduceIte, Nat.reduceLeDiff, Nat.reduceBEq, Nat.reduceLT, Nat.reduceSub, Int.reduceLT, Int.reduceLE, Int.reduceEq, Int.reduceToNat, Nat.reduceMul, eq_self, implies_true, forall_const] <;> trivial
  subst hr
  simp -implicitDefEqProofs only [vqa, Nat.reduceEqDiff, Nat.reduceAdd, reduceIte, Nat.reduceLeDiff, Nat.reduceBEq, Nat.reduceLT, Nat.reduceSub, Int.reduceLT, Int.reduceLE, Int.reduceEq, Int.reduceToNat, Nat.reduceMul, eq_self, implies_true, forall_const]
  refine ⟨fun h => ?_, fun h => ?_⟩
  · refine ⟨_, _, rfl, fun _ => ⟨_, _, _, _, _, rfl⟩, fun _ => rfl, fun k => absurd k h⟩
  have hF : formF N = 0 := Classical.not_not.1 h
  have g := Net.good hF
  have bni := g.ni; have bnf := g.nf; have bng := g.ng; have bno := g.no; have bnk := g.nk
  have hfst : N.first = 2 + N.ni + N.nf := rfl
  have hnts : N.nets = N.first + N.ng := rfl
  refine vFor N.nf (fun i e m => e 1 = .ptr 1 V1 0 ∧ m 1 = .var V1 [.fs N.ni f0, .fs N.no f1, .fs N.nf f2, .fs N.ng f3, .fs N.nk f4] ∧ e 2 = .ptr 2 V2 0 ∧ m 2 = .var V2 [.cap0, .cap0, .cap0, .cap0, .cap0] ∧ e 31 = .fs N.nf f2 ∧ e 32 = .int .i64 N.nf ∧ e 33 = .int .i64 i ∧ ∃ rv, e 5 = rv ∧ Acc 44 114 3 i (fun k a => a = (rgN N k).av) rv m) ?_ ?_ ?_
  · simp -implicitDefEqProofs only [vqa, Nat.reduceEqDiff, Nat.reduceAdd, reduceIte, Nat.reduceLeDiff, Nat.reduceBEq, Nat.reduceLT, Nat.reduceSub, Int.reduceLT, Int.reduceLE, Int.reduceEq, Int.reduceToNat, Nat.reduceMul, eq_self, implies_true, forall_const]
    exact ⟨_, rfl, .none⟩
  · rintro i e m hi hi' ⟨h1, m1, h2, m2, e31, e32, e33, rv, e5, hA⟩
    unfold a53_0
    have hfi : f2 i = .agg [.str (N.flop i).name, .int .i64 (N.flop i).cell, .int .i64 (N.flop i).d, .int .i64 (N.flop i).en, .bool (N.flop i).init] := c2 i hi
    rcases hA with ⟨rfl, rfl⟩ | ⟨ver, gg, rfl, m44, hg⟩
    · have hi0 : (0 : Int) < (N.nf : Nat) := by omega
      simp -implicitDefEqProofs only [vqa, Nat.reduceEqDiff, Nat.reduceAdd, reduceIte, Nat.reduceLeDiff, Nat.reduceBEq, Nat.reduceLT, Nat.reduceSub, Int.reduceLT, Int.reduceLE, Int.reduceEq, Int.reduceToNat, Nat.reduceMul, eq_self, implies_true, forall_const, h1, m1, h2, m2, e31, e32, e33, e5, hi', hfi, hi0]
      refine ⟨hi, by decide, _, rfl, .inr ⟨_, _, rfl, set_same _ _ _, fun k hk => ?_⟩⟩
      obtain rfl : k = 0 := by omega
      rfl
    · simp -implicitDefEqProofs only [vqa, Nat.reduceEqDiff, Nat.reduceAdd, reduceIte, Nat.reduceLeDiff, Nat.reduceBEq, Nat.reduceLT, Nat.reduceSub, Int.reduceLT, Int.reduceLE, Int.reduceEq, Int.reduceToNat, Nat.reduceMul, eq_self, implies_true, forall_const, h1, m1, h2, m2, e31, e32, e33, e5, hi', hfi, m44]
      refine ⟨by omega, by omega, hi, wI (by omega) (by omega), _, rfl, .inr ⟨_, _, rfl, set_same _ _ _, pushF (p := fun k => (rgN N k).av) hg rfl⟩⟩
  rintro e m ⟨h1, m1, h2, m2, e31, e32, e33, rv, e5, hA⟩
  unfold a53_0
  simp -implicitDefEqProofs only [vqa, Nat.reduceEqDiff, Nat.reduceAdd, reduceIte, Nat.reduceLeDiff, Nat.reduceBEq, Nat.reduceLT, Nat.reduceSub, Int.reduceLT, Int.reduceLE, Int.reduceEq, Int.reduceToNat, Nat.reduceMul, eq_self, implies_true, forall_const, h1, m1, h2, m2, e31, e32, e33, e5]
  have hNew : CallW PP 97 [.fs N.ni f0, rv] m fun r m' => ∃ v gi gr, r = .ptr 1011 v 0 ∧ MkA m' 1011 v gi gr (newM N.ni N.nf) (fun j => 1000 ≤ j ∧ j < 2000 + 20000 * 0) ∧ (∀ k, k < 1000 → k ≠ 44 → m' k = m k) ∧ (∀ i, i < N.ni → gi i = .str (N.inn i)) ∧ ∀ i, i < N.nf → gr i = (rgN N i).av := by
    have hci : ∀ i, i < N.ni → (f0 i).cells.length = 1 ∧ (f0 i).cells.all AV.isCell = true := fun i hi => by rw [c0 i hi]; exact ⟨rfl, rfl⟩
    rcases hA with ⟨hz, rfl⟩ | ⟨ver, gg, rfl, m44, hg⟩
    · refine CallW.frzW (by simp -implicitDefEqProofs only [vqa, Nat.reduceEqDiff, Nat.reduceAdd, reduceIte, Nat.reduceLeDiff, Nat.reduceBEq, Nat.reduceLT, Nat.reduceSub, Int.reduceLT, Int.reduceLE, Int.reduceEq, Int.reduceToNat, Nat.reduceMul, eq_self, implies_true, forall_const]; rfl) (by simp only [and_self]) ?_
      have hp := p97 1000 (mem := m) (ni := N.ni) (nr := 0) (fi := f0) (fr := fun _ => .undef) hci (fun i hi => absurd hi (Nat.not_lt_zero _)) hni (by decide)
      refine CallW.mono hp fun r m' ⟨v, gi, gr, hr, hM, hK, q1, q2⟩ => ⟨v, gi, gr, hr, ?_, fun k hk hk4 => hK k hk, fun i hi => by rw [q1 i hi, c0 i hi], fun i hi => absurd hi (by omega)⟩
      rw [hz]
      exact hM.wide fun i hi => hi.elim False.elim fun q => ⟨q.1, by omega⟩
    · refine CallW.frzW (by simp -implicitDefEqProofs only [vqa, Nat.reduceEqDiff, Nat.reduceAdd, reduceIte, Nat.reduceLeDiff, Nat.reduceBEq, Nat.reduceLT, Nat.reduceSub, Int.reduceLT, Int.reduceLE, Int.reduceEq, Int.reduceToNat, Nat.reduceMul, eq_self, implies_true, forall_const, m44]; rfl) (by simp only [and_self]) ?_
      have hp := p97 1000 (mem := Mem.set 44 (.dead (ver + 1)) m) (ni := N.ni) (nr := N.nf) (fi := f0) (fr := gg) hci (fun i hi => by rw [hg i hi]; exact ⟨rfl, rfl⟩) hni hnf
      refine CallW.mono hp fun r m' ⟨v, gi, gr, hr, hM, hK, q1, q2⟩ => ⟨v, gi, gr, hr, hM.wide fun i hi => hi.elim False.elim fun q => ⟨q.1, by omega⟩, fun k hk hk4 => by rw [hK k hk, set_ne hk4], fun i hi => by rw [q1 i hi, c0 i hi], fun i hi => by rw [q2 i hi, hg i hi]⟩
  refine CallW.mono hNew fun r m3 ⟨v, gi, gr, hr, hM, hK, hgi, hgr⟩ => ?_
  subst hr
  have n1 := (hK 1 (by decide) (by decide)).trans m1
  have n2 := (hK 2 (by decide) (by decide)).trans m2
  simp -implicitDefEqProofs only [vqa, Nat.reduceEqDiff, Nat.reduceAdd, reduceIte, Nat.reduceLeDiff, Nat.reduceBEq, Nat.reduceLT, Nat.reduceSub, Int.reduceLT, Int.reduceLE, Int.reduceEq, Int.reduceToNat, Nat.reduceMul, eq_self, implies_true, forall_const, h1, h2, n1, n2, e5]
  refine CallW.sc p29c ?_ ?_ fun r hr => ⟨by subst hr; rfl, ?_⟩
  · simp only [rsC, rs2, rs1, rs0, vqa, Nat.reduceEqDiff, Nat.reduceAdd, reduceIte, Nat.reduceLeDiff, Nat.reduceBEq, Nat.reduceLT, Nat.reduceSub, Int.reduceLT, Int.reduceLE, Int.reduceEq, Int.reduceToNat, Nat.reduceMul, eq_self, implies_true, forall_const] <;> rfl
  · simp only [rsC, rs2, rs1, rs0, vqa, Nat.reduceEqDiff, Nat.reduceAdd, reduceIte, Nat.reduceLeDiff, Nat.reduceBEq, Nat.reduceLT, Nat.reduceSub, Int.reduceLT, Int.reduceLE, Int.reduceEq, Int.reduceToNat, Nat.reduceMul, eq_self, implies_true, forall_const] <;> trivial
  subst hr
  have wf : IntKind.i64.wrap ((N.first : Nat) - 2) = ((N.ni + N.nf : Nat) : Int) := by rw [wI (by omega) (by omega)]; omega
  simp -implicitDefEqProofs only [vqa, Nat.reduceEqDiff, Nat.reduceAdd, reduceIte, Nat.reduceLeDiff, Nat.reduceBEq, Nat.reduceLT, Nat.reduceSub, Int.reduceLT, Int.reduceLE, Int.reduceEq, Int.reduceToNat, Nat.reduceMul, eq_self, implies_true, forall_const, h1, h2, n1, n2, e5, wf]
  refine vFor (N.ni + N.nf) (fun i e m => e 1 = .ptr 1 V1 0 ∧ m 1 = .var V1 [.fs N.ni f0, .fs N.no f1, .fs N.nf f2, .fs N.ng f3, .fs N.nk f4] ∧ e 2 = .ptr 2 V2 0 ∧ m 2 = .var V2 [.cap0, .cap0, .cap0, .cap0, .cap0] ∧ e 8 = .ptr 1011 v 0 ∧ e 53 = .int .i64 ((N.ni + N.nf : Nat) : Int) ∧ e 54 = .int .i64 i ∧ MkA m 1011 v gi gr (newM N.ni N.nf) (fun j => 1000 ≤ j ∧ j < 2000 + 20000 * 0) ∧ Acc 50 108 1 (2 + i) (fun k a => a = .int .i64 (lN k)) (e 9) m) ?_ ?_ ?_
  · simp -implicitDefEqProofs only [vqa, Nat.reduceEqDiff, Nat.reduceAdd, reduceIte, Nat.reduceLeDiff, Nat.reduceBEq, Nat.reduceLT, Nat.reduceSub, Int.reduceLT, Int.reduceLE, Int.reduceEq, Int.reduceToNat, Nat.reduceMul, eq_self, implies_true, forall_const, h1, h2, n1, n2]
    refine ⟨hM.congr (fun i hi => set_ne (by have := hi.1; omega) _ _) (fun _ h => h), .inr ⟨_, _, rfl, set_same _ _ _, fun k hk => ?_⟩⟩
    rcases (by omega : k = 0 ∨ k = 1) with rfl | rfl <;> rfl
  · rintro i e m hi hi' ⟨h1, m1, h2, m2, e8, e53, e54, hMm, hA⟩
    have hi2 : ((i : Nat) : Int) < (N.ni + N.nf : Nat) := by omega
    rcases hA with ⟨hz, _⟩ | ⟨V, gl, e9, m50, hgl⟩
    · omega
    unfold a53_1
    simp -implicitDefEqProofs only [vqa, Nat.reduceEqDiff, Nat.reduceAdd, reduceIte, Nat.reduceLeDiff, Nat.reduceBEq, Nat.reduceLT, Nat.reduceSub, Int.reduceLT, Int.reduceLE, Int.reduceEq, Int.reduceToNat, Nat.reduceMul, eq_self, implies_true, forall_const, h1, m1, h2, m2, e8, e53, e54, e9, m50, hi2, wI (n := 1 + (i : Int)) (by omega) (by omega)]
    refine CallW.sc (p98 (1 + (i : Int)) false) rfl ⟨trivial, trivial, trivial⟩ fun r hr => ⟨by subst hr; rfl, ?_⟩
    subst hr
    have hm : makeF (1 + (i : Int)) false = 2 * ((1 + i : Nat) : Int) := by
      unfold makeF
      rw [if_neg (by omega)]
      show 2 * (1 + (i : Int)) = _
      omega
    simp -implicitDefEqProofs only [vqa, Nat.reduceEqDiff, Nat.reduceAdd, reduceIte, Nat.reduceLeDiff, Nat.reduceBEq, Nat.reduceLT, Nat.reduceSub, Int.reduceLT, Int.reduceLE, Int.reduceEq, Int.reduceToNat, Nat.reduceMul, eq_self, implies_true, forall_const, h1, m1, h2, m2, e8, e53, e54, e9, m50, hi2, hm]
    exact ⟨by omega, by omega, wI (by omega) (by omega), hMm.congr (fun k hk => (set_ne (by have := hk.1; omega) _ _).trans (set_ne (by have := hk.1; omega) _ _)) (fun _ h => h), .inr ⟨_, _, rfl, set_same _ _ _, pushF (p := fun k => .int .i64 (lN k)) hgl (by show _ = AV.int .i64 (lN (2 + i)); rw [lN_up])⟩⟩
  rintro e m ⟨h1, m1, h2, m2, e8, e53, e54, hMm, hA⟩
  rcases hA with ⟨hz, _⟩ | ⟨V, gl, e9, m50, hgl⟩
  · omega
  unfold a53_1
  simp -implicitDefEqProofs only [vqa, Nat.reduceEqDiff, Nat.reduceAdd, reduceIte, Nat.reduceLeDiff, Nat.reduceBEq, Nat.reduceLT, Nat.reduceSub, Int.reduceLT, Int.reduceLE, Int.reduceEq, Int.reduceToNat, Nat.reduceMul, eq_self, implies_true, forall_const, h1, m1, h2, m2, e8, e53, e54, e9, m50]
  refine vFor N.ng (fun i e m => e 1 = .ptr 1 V1 0 ∧ m 1 = .var V1 [.fs N.ni f0, .fs N.no f1, .fs N.nf f2, .fs N.ng f3, .fs N.nk f4] ∧ e 2 = .ptr 2 V2 0 ∧ m 2 = .var V2 [.cap0, .cap0, .cap0, .cap0, .cap0] ∧ e 8 = .ptr 1011 v 0 ∧ e 65 = .fs N.ng f3 ∧ e 66 = .int .i64 N.ng ∧ e 67 = .int .i64 i ∧ ∃ M l b, MkA m 1011 v gi gr M (fun j => 1000 ≤ j ∧ j < 2000 + 20000 * i) ∧ MS (newM N.ni N.nf) M (budN N i) b ∧ Lits N M l i b ∧ Acc 50 108 1 (N.first + i) (fun k a => a = .int .i64 (l k)) (e 9) m) ?_ ?_ ?_
  · simp -implicitDefEqProofs only [vqa, Nat.reduceEqDiff, Nat.reduceAdd, reduceIte, Nat.reduceLeDiff, Nat.reduceBEq, Nat.reduceLT, Nat.reduceSub, Int.reduceLT, Int.reduceLE, Int.reduceEq, Int.reduceToNat, Nat.reduceMul, eq_self, implies_true, forall_const, h1, m1, h2, m2, e8, e9, m50]
    refine ⟨newM N.ni N.nf, lN, true, hMm, MS.refl ⟨hni, hnf, Nat.zero_le _⟩ (fun k hk => absurd hk (Nat.not_lt_zero _)), lits0 N rfl rfl (fun i hi => lN_up i), .inr ⟨_, gl, by rw [show 2 + (N.ni + N.nf) = N.first by omega], by rw [m50, show 2 + (N.ni + N.nf) = N.first by omega], fun k hk => hgl k (by omega)⟩⟩
  · clear hMm m50 hgl h1 m1 h2 m2 e8 e53 e54 e9 m e
    rintro i e m hi hi' ⟨h1, m1, h2, m2, e8, e65, e66, e67, M, l, b, hMm, hS, hL, hA⟩
    obtain ⟨q, hq, hqi⟩ := c3 i hi
    obtain ⟨gn6, _, gins⟩ := g.ins i hi
    have ht := (ok.gate i hi).2.2.1
    rcases hA with ⟨hz, _⟩ | ⟨V, gl, e9, m50, hgl⟩
    · omega
    unfold a53_2
    simp -implicitDefEqProofs only [vqa, Nat.reduceEqDiff, Nat.reduceAdd, reduceIte, Nat.reduceLeDiff, Nat.reduceBEq, Nat.reduceLT, Nat.reduceSub, Int.reduceLT, Int.reduceLE, Int.reduceEq, Int.reduceToNat, Nat.reduceMul, eq_self, implies_true, forall_const, h1, m1, h2, m2, e8, e65, e66, e67, e9, m50, hi', hq]
    refine ⟨by omega, ?_⟩
    generalize (m 12).ver + 1 = V12
    refine vFor (N.gate i).n (fun j e m => e 1 = .ptr 1 V1 0 ∧ m 1 = .var V1 [.fs N.ni f0, .fs N.no f1, .fs N.nf f2, .fs N.ng f3, .fs N.nk f4] ∧ e 2 = .ptr 2 V2 0 ∧ m 2 = .var V2 [.cap0, .cap0, .cap0, .cap0, .cap0] ∧ e 8 = .ptr 1011 v 0 ∧ e 65 = .fs N.ng f3 ∧ e 66 = .int .i64 N.ng ∧ e 67 = .int .i64 i ∧ e 12 = .ptr 12 V12 0 ∧ m 12 = .var V12 [.int .i64 (N.gate i).cell, .int .u64 (N.gate i).table, .fs (N.gate i).n q] ∧ e 72 = .fs (N.gate i).n q ∧ e 73 = .int .i64 (N.gate i).n ∧ e 74 = .int .i64 j ∧ MkA m 1011 v gi gr M (fun j => 1000 ≤ j ∧ j < 2000 + 20000 * i) ∧ e 9 = .sl 50 V (N.first + i) ∧ m 50 = .row V 108 1 (N.first + i) gl ∧ Acc 84 108 1 j (fun k a => a = .int .i64 (l ((N.gate i).ins k).toNat)) (e 13) m) ?_ ?_ ?_
    · simp -implicitDefEqProofs only [vqa, Nat.reduceEqDiff, Nat.reduceAdd, reduceIte, Nat.reduceLeDiff, Nat.reduceBEq, Nat.reduceLT, Nat.reduceSub, Int.reduceLT, Int.reduceLE, Int.reduceEq, Int.reduceToNat, Nat.reduceMul, eq_self, implies_true, forall_const, h1, m1, h2, m2, e8, e65, e66, e67, e9, m50]
      exact ⟨hMm.congr (fun k hk => (set_ne (by have := hk.1; omega) _ _).trans (set_ne (by have := hk.1; omega) _ _)) (fun _ h => h), .none⟩
    · clear hMm m50 h1 m1 h2 m2 e8 e65 e66 e67 e9 m e
      rintro j e m hj hj' ⟨h1, m1, h2, m2, e8, e65, e66, e67, e12, m12, e72, e73, e74, hMm, e9, m50, hA⟩
      have hq := gins j hj
      have hlt : ((N.gate i).ins j) < ((N.first + i : Nat) : Int) := hq.2
      have hgj := hgl ((N.gate i).ins j).toNat (by omega)
      unfold a53_3
      rcases hA with ⟨rfl, e13⟩ | ⟨ver, gg, e13, m84, hg⟩
      · have hj0 : (0 : Int) < ((N.gate i).n : Nat) := by omega
        have hq0 := hqi 0 hj
        simp -implicitDefEqProofs only [vqa, Nat.reduceEqDiff, Nat.reduceAdd, reduceIte, Nat.reduceLeDiff, Nat.reduceBEq, Nat.reduceLT, Nat.reduceSub, Int.reduceLT, Int.reduceLE, Int.reduceEq, Int.reduceToNat, Nat.reduceMul, eq_self, implies_true, forall_const, h1, m1, h2, m2, e8, e65, e66, e67, e12, m12, e72, e73, e74, e9, m50, e13, hj', hj0, hq0, hgj, hq.1, hlt]
        refine ⟨by omega, hj, by decide, hMm.congr (fun k hk => (set_ne (by have := hk.1; omega) _ _).trans (set_ne (by have := hk.1; omega) _ _)) (fun _ h => h), .inr ⟨_, _, rfl, set_same _ _ _, fun k hk => ?_⟩⟩
        obtain rfl : k = 0 := by omega
        rfl
      · simp -implicitDefEqProofs only [vqa, Nat.reduceEqDiff, Nat.reduceAdd, reduceIte, Nat.reduceLeDiff, Nat.reduceBEq, Nat.reduceLT, Nat.reduceSub, Int.reduceLT, Int.reduceLE, Int.reduceEq, Int.reduceToNat, Nat.reduceMul, eq_self, implies_true, forall_const, h1, m1, h2, m2, e8, e65, e66, e67, e12, m12, e72, e73, e74, e9, m50, e13, m84, hj', hqi j hj, hgj, hq.1, hlt]
        exact ⟨by omega, by omega, by omega, hj, wI (by omega) (by omega), hMm.congr (fun k hk => (set_ne (by have := hk.1; omega) _ _).trans (set_ne (by have := hk.1; omega) _ _)) (fun _ h => h), .inr ⟨_, _, rfl, set_same _ _ _, pushF (p := fun k => .int .i64 (l ((N.gate i).ins k).toNat)) hg rfl⟩⟩
    · clear hMm m50 h1 m1 h2 m2 e8 e65 e66 e67 e9 m e
      rintro e m ⟨h1, m1, h2, m2, e8, e65, e66, e67, e12, m12, e72, e73, e74, hMm, e9, m50, hA⟩
      unfold a53_3
      generalize hv13 : e 13 = w13 at hA
      simp -implicitDefEqProofs only [vqa, Nat.reduceEqDiff, Nat.reduceAdd, reduceIte, Nat.reduceLeDiff, Nat.reduceBEq, Nat.reduceLT, Nat.reduceSub, Int.reduceLT, Int.reduceLE, Int.reduceEq, Int.reduceToNat, Nat.reduceMul, eq_self, implies_true, forall_const, h1, m1, h2, m2, e8, e65, e66, e67, e12, m12, e72, e73, e74, e9, m50, hv13]
      have hsm : ∀ k, (1000 ≤ k ∧ k < 2000 + 20000 * i) → k < 2000 + 20000 * i := fun k h => h.2
      have hbx : ∀ j, j < (N.gate i).n → M.bef (l ((N.gate i).ins j).toNat) := fun j hj => hL.bef _ (by have := gins j hj; omega)
      have hT : CallW PP 99 [.ptr 1011 v 0, .int .u64 (N.gate i).table, w13] m fun r m' => ∃ M' r' d, r = .int .i64 r' ∧ MkA m' 1011 v gi gr M' (fun j => 1000 ≤ j ∧ j < 2000 + 20000 * (i + 1)) ∧ MS M M' (tc (N.gate i).n) d ∧ M'.bef r' ∧ (d = true → ∀ p q, M'.lv p q r' = bit (N.gate i).table (rowB (fun j => M.lv p q (l ((N.gate i).ins j).toNat)) (N.gate i).n)) ∧ ∀ k, k < 1000 → k ≠ 84 → m' k = m k := by
        rcases hA with ⟨hz, rfl⟩ | ⟨ver, gg, rfl, m84, hg⟩
        · refine CallW.frzK 2 (show 2 < 3 by decide) (show Go.Ab.frzA .cap0 m = some (True, .cap0, m) from rfl) trivial ?_
          have hp := p99 (2000 + 20000 * i) hMm hS.ok hsm hS.good (N.gate i).table ht 0 (by decide) (fun j => l ((N.gate i).ins j).toNat) (fun _ => .undef) (fun j hj => absurd hj (Nat.not_lt_zero _)) (fun j hj => absurd hj (Nat.not_lt_zero _))
          refine CallW.mono hp fun r m' ⟨M', r', d, hr, hM', hs, hb, hv, hFr⟩ => ⟨M', r', d, hr, hM'.wide fun k hk => ?_, by rw [hz]; exact hs, hb, fun hd p q => by rw [hz]; exact hv hd p q, fun k hk _ => hFr k (by omega) (fun h => by omega)⟩
          exact hk.elim (fun h => ⟨h.1, by have := h.2; omega⟩) fun h => ⟨by omega, by omega⟩
        · refine CallW.frzK 2 (show 2 < 3 by decide) (show Go.Ab.frz0 m (.sl 84 ver (N.gate i).n) = some (ver = ver, .fs (N.gate i).n gg, Mem.set 84 (.dead (ver + 1)) m) by simp only [Go.Ab.frz0, m84]) rfl ?_
          have hp := p99 (2000 + 20000 * i) (hMm.setOut (k := 84) (q := .dead (ver + 1)) (fun h => by omega)) hS.ok hsm hS.good (N.gate i).table ht (N.gate i).n gn6 (fun j => l ((N.gate i).ins j).toNat) gg hg hbx
          refine CallW.mono hp fun r m' ⟨M', r', d, hr, hM', hs, hb, hv, hFr⟩ => ⟨M', r', d, hr, hM'.wide fun k hk => ?_, hs, hb, hv, fun k hk hk4 => by rw [hFr k (by omega) (fun h => by omega), set_ne hk4]⟩
          exact hk.elim (fun h => ⟨h.1, by have := h.2; omega⟩) fun h => ⟨by omega, by omega⟩
      refine CallW.mono hT fun r m4 ⟨M', r', d, hr, hM', hs, hb, hv, hFr⟩ => ?_
      subst hr
      have n1 := (hFr 1 (by decide) (by decide)).trans m1
      have n2 := (hFr 2 (by decide) (by decide)).trans m2
      have n50 := (hFr 50 (by decide) (by decide)).trans m50
      simp -implicitDefEqProofs only [vqa, Nat.reduceEqDiff, Nat.reduceAdd, reduceIte, Nat.reduceLeDiff, Nat.reduceBEq, Nat.reduceLT, Nat.reduceSub, Int.reduceLT, Int.reduceLE, Int.reduceEq, Int.reduceToNat, Nat.reduceMul, eq_self, implies_true, forall_const, h1, m1, h2, m2, e8, e65, e66, e67, e9, n1, n2, n50]
      refine ⟨by omega, hi, wI (by omega) (by omega), M', fun k => if k < N.first + i then l k else r', b && d, ?_, hS.trans hs, hL.step g ok hi hs hb hv, .inr ⟨_, _, rfl, set_same _ _ _, ?_⟩⟩
      · exact hM'.congr (fun k hk => (set_ne (by have := hk.1; omega) _ _).trans (set_ne (by have := hk.1; omega) _ _)) (fun _ h => h)
      · refine pushF (p := fun k => .int .i64 (if k < N.first + i then l k else r')) (fun k hk => ?_) ?_
        · rw [hgl k hk, if_pos (show k < N.first + i from hk)]
        · show _ = AV.int .i64 (if N.first + i < N.first + i then _ else r')
          rw [if_neg (Nat.lt_irrefl _)]
  · clear hMm m50 hgl h1 m1 h2 m2 e8 e53 e54 e9 m e
    rintro e m ⟨h1, m1, h2, m2, e8, e65, e66, e67, M, l, b, hMm, hS, hL, hA⟩
    rcases hA with ⟨hz, _⟩ | ⟨V, gl, e9, m50, hgl⟩
    · omega
    unfold a53_2
    simp -implicitDefEqProofs only [vqa, Nat.reduceEqDiff, Nat.reduceAdd, reduceIte, Nat.reduceLeDiff, Nat.reduceBEq, Nat.reduceLT, Nat.reduceSub, Int.reduceLT, Int.reduceLE, Int.reduceEq, Int.reduceToNat, Nat.reduceMul, eq_self, implies_true, forall_const, h1, m1, h2, m2, e8, e65, e66, e67, e9, m50]
    refine vFor N.nk (fun i e m => e 1 = .ptr 1 V1 0 ∧ m 1 = .var V1 [.fs N.ni f0, .fs N.no f1, .fs N.nf f2, .fs N.ng f3, .fs N.nk f4] ∧ e 2 = .ptr 2 V2 0 ∧ m 2 = .var V2 [.cap0, .cap0, .cap0, .cap0, .cap0] ∧ e 8 = .ptr 1011 v 0 ∧ e 96 = .fs N.nk f4 ∧ e 97 = .int .i64 N.nk ∧ e 98 = .int .i64 i ∧ e 17 = .cap0 ∧ MkA m 1011 v gi gr M (fun j => 1000 ≤ j ∧ j < 2000 + 20000 * N.ng) ∧ e 9 = .sl 50 V (N.first + N.ng) ∧ m 50 = .row V 108 1 (N.first + N.ng) gl ∧ Acc 108 108 1 i (fun k a => a = .int .i64 (l (N.outs k).toNat)) (e 16) m) ?_ ?_ ?_
    · simp -implicitDefEqProofs only [vqa, Nat.reduceEqDiff, Nat.reduceAdd, reduceIte, Nat.reduceLeDiff, Nat.reduceBEq, Nat.reduceLT, Nat.reduceSub, Int.reduceLT, Int.reduceLE, Int.reduceEq, Int.reduceToNat, Nat.reduceMul, eq_self, implies_true, forall_const, h1, m1, h2, m2, e8, e65, e66, e67, e9, m50]
      exact ⟨hMm, .none⟩
    · clear hMm m50 h1 m1 h2 m2 e8 e65 e66 e67 e9 m e
      rintro i e m hi hi' ⟨h1, m1, h2, m2, e8, e96, e97, e98, e17, hMm, e9, m50, hA⟩
      obtain ⟨q1, q2⟩ := g.outs i hi
      have hlt : N.outs i < ((N.first + N.ng : Nat) : Int) := q2
      have hgj := hgl (N.outs i).toNat (by omega)
      unfold a53_4
      rcases hA with ⟨rfl, e16⟩ | ⟨ver, gg, e16, m108, hg⟩
      · have hj0 : (0 : Int) < (N.nk : Nat) := by omega
        have hq0 := c4 0 hi
        simp -implicitDefEqProofs only [vqa, Nat.reduceEqDiff, Nat.reduceAdd, reduceIte, Nat.reduceLeDiff, Nat.reduceBEq, Nat.reduceLT, Nat.reduceSub, Int.reduceLT, Int.reduceLE, Int.reduceEq, Int.reduceToNat, Nat.reduceMul, eq_self, implies_true, forall_const, h1, m1, h2, m2, e8, e96, e97, e98, e17, e9, m50, e16, hi', hj0, hq0, hgj, q1, hlt]
        refine ⟨by omega, hi, by decide, hMm.congr (fun k hk => (set_ne (by have := hk.1; omega) _ _).trans (set_ne (by have := hk.1; omega) _ _)) (fun _ h => h), .inr ⟨_, _, rfl, set_same _ _ _, fun k hk => ?_⟩⟩
        obtain rfl : k = 0 := by omega
        rfl
      · simp -implicitDefEqProofs only [vqa, Nat.reduceEqDiff, Nat.reduceAdd, reduceIte, Nat.reduceLeDiff, Nat.reduceBEq, Nat.reduceLT, Nat.reduceSub, Int.reduceLT, Int.reduceLE, Int.reduceEq, Int.reduceToNat, Nat.reduceMul, eq_self, implies_true, forall_const, h1, m1, h2, m2, e8, e96, e97, e98, e17, e9, m50, e16, m108, hi', c4 i hi, hgj, q1, hlt]
        exact ⟨by omega, by omega, by omega, hi, wI (by omega) (by omega), hMm.congr (fun k hk => (set_ne (by have := hk.1; omega) _ _).trans (set_ne (by have := hk.1; omega) _ _)) (fun _ h => h), .inr ⟨_, _, rfl, set_same _ _ _, pushF (p := fun k => .int .i64 (l (N.outs k).toNat)) hg rfl⟩⟩
    · clear hMm m50 h1 m1 h2 m2 e8 e65 e66 e67 e9 m e
      rintro e m ⟨h1, m1, h2, m2, e8, e96, e97, e98, e17, hMm, e9, m50, hA⟩
      unfold a53_4
      generalize hw16 : e 16 = w16 at hA
      simp -implicitDefEqProofs only [vqa, Nat.reduceEqDiff, Nat.reduceAdd, reduceIte, Nat.reduceLeDiff, Nat.reduceBEq, Nat.reduceLT, Nat.reduceSub, Int.reduceLT, Int.reduceLE, Int.reduceEq, Int.reduceToNat, Nat.reduceMul, eq_self, implies_true, forall_const, h1, m1, h2, m2, e8, e96, e97, e98, e17, e9, m50, hw16]
      refine vFor N.nf (fun i e m => e 1 = .ptr 1 V1 0 ∧ m 1 = .var V1 [.fs N.ni f0, .fs N.no f1, .fs N.nf f2, .fs N.ng f3, .fs N.nk f4] ∧ e 2 = .ptr 2 V2 0 ∧ m 2 = .var V2 [.cap0, .cap0, .cap0, .cap0, .cap0] ∧ e 8 = .ptr 1011 v 0 ∧ e 111 = .fs N.nf f2 ∧ e 112 = .int .i64 N.nf ∧ e 113 = .int .i64 i ∧ e 9 = .sl 50 V (N.first + N.ng) ∧ m 50 = .row V 108 1 (N.first + N.ng) gl ∧ Acc 108 108 1 N.nk (fun k a => a = .int .i64 (l (N.outs k).toNat)) (e 16) m ∧ ∃ (M : Mak) (nx : Nat → Int) (b : Bool), MkA m 1011 v gi gr M (fun j => 1000 ≤ j ∧ j < 2000 + 20000 * N.ng + 1000 * i) ∧ MS (newM N.ni N.nf) M (budN N N.ng + 3 * i) b ∧ Lits N M l N.ng b ∧ (∀ k, k < i → M.bef (nx k) ∧ (b = true → ∀ x y, M.lv x y (nx k) = nextB N (bv N x y N.ng) k)) ∧ Acc 135 108 1 i (fun k a => a = .int .i64 (nx k)) (e 17) m) ?_ ?_ ?_
      · simp -implicitDefEqProofs only [vqa, Nat.reduceEqDiff, Nat.reduceAdd, reduceIte, Nat.reduceLeDiff, Nat.reduceBEq, Nat.reduceLT, Nat.reduceSub, Int.reduceLT, Int.reduceLE, Int.reduceEq, Int.reduceToNat, Nat.reduceMul, eq_self, implies_true, forall_const, h1, m1, h2, m2, e8, e96, e97, e98, e17, e9, m50, hw16]
        exact ⟨hA, M, fun _ => 0, b, hMm.wide (fun k hk => ⟨hk.1, by have := hk.2; omega⟩), hS, hL, .none⟩
      · clear hMm m50 hS hL hw16 hA h1 m1 h2 m2 e8 e96 e97 e98 e17 e9 m e M b
        rintro i e m hi hi' ⟨h1, m1, h2, m2, e8, e111, e112, e113, e9, m50, hO, M, nx, b, hMm, hS, hL, hX, hA⟩
        obtain ⟨⟨d1, d2⟩, d3, d4⟩ := g.flops i hi
        have lt1 : (N.flop i).d < ((N.first + N.ng : Nat) : Int) := d2
        have lt2 : (N.flop i).en < ((N.first + N.ng : Nat) : Int) := d4
        have hg1 := hgl (N.flop i).d.toNat (by omega)
        have hg2 := hgl (N.flop i).en.toNat (by omega)
        have hfi : f2 i = .agg [.str (N.flop i).name, .int .i64 (N.flop i).cell, .int .i64 (N.flop i).d, .int .i64 (N.flop i).en, .bool (N.flop i).init] := c2 i hi
        unfold a53_5
        simp -implicitDefEqProofs only [vqa, Nat.reduceEqDiff, Nat.reduceAdd, reduceIte, Nat.reduceLeDiff, Nat.reduceBEq, Nat.reduceLT, Nat.reduceSub, Int.reduceLT, Int.reduceLE, Int.reduceEq, Int.reduceToNat, Nat.reduceMul, eq_self, implies_true, forall_const, h1, m1, h2, m2, e8, e111, e112, e113, e9, m50, hi', hfi]
        refine ⟨by omega, ?_⟩
        generalize (m 21).ver + 1 = V21
        refine vAnyT [0, 1, 2, 3, 4, 5, 6, 7, 8, 9, 10, 11, 12, 13] (.step 14 (.step 15 (.step 16 (.step 17 (.step 18 .leaf))))) (fun m' => m' 21 = .var V21 [.str (N.flop i).name, .int .i64 (N.flop i).cell, .int .i64 (N.flop i).d, .int .i64 (N.flop i).en, .bool (N.flop i).init] ∧ m' 50 = .row V 108 1 (N.first + N.ng) gl) (by kernel_rfl) (by kernel_rfl) (by simp -implicitDefEqProofs only [vqa, Nat.reduceEqDiff, Nat.reduceAdd, reduceIte, Nat.reduceLeDiff, Nat.reduceBEq, Nat.reduceLT, Nat.reduceSub, Int.reduceLT, Int.reduceLE, Int.reduceEq, Int.reduceToNat, Nat.reduceMul, eq_self, implies_true, forall_const, m50]) ?_
        simp -implicitDefEqProofs only [vqa, Nat.reduceEqDiff, Nat.reduceAdd, reduceIte, Nat.reduceLeDiff, Nat.reduceBEq, Nat.reduceLT, Nat.reduceSub, Int.reduceLT, Int.reduceLE, Int.reduceEq, Int.reduceToNat, Nat.reduceMul, eq_self, implies_true, forall_const, vqt, h1, m1, h2, m2, e8, e111, e112, e113, e9, m50, d1, d3, lt1, lt2, hg1, hg2]
        refine ⟨fun m' hm' => (by rw [hm'.1]; exact ⟨_, rfl, rfl⟩), fun m' hm' => (by rw [hm'.1]; exact ⟨_, rfl, rfl⟩), fun m' hm' => (by rw [hm'.2]; exact ⟨_, rfl, rfl⟩), by omega, fun m' hm' => (by rw [hm'.2]; exact ⟨(V = V ∧ (N.flop i).en.toNat < N.first + N.ng), by simp only [hg2]; rfl, rfl, by omega⟩), fun m' hm' => (by rw [hm'.1]; exact ⟨_, rfl, rfl⟩), fun m' hm' => (by rw [hm'.1]; exact ⟨_, rfl, rfl⟩), fun m' hm' => (by rw [hm'.2]; exact ⟨_, rfl, rfl⟩), by omega, fun m' hm' => (by rw [hm'.2]; exact ⟨(V = V ∧ (N.flop i).d.toNat < N.first + N.ng), by simp only [hg1]; rfl, rfl, by omega⟩), ?_⟩
        have hMn : M.ni = N.ni := hS.pre.ni
        have hMr : M.nr = N.nf := hS.pre.nr
        have hreg : M.regF (i : Int) = (2 * (1 + M.ni + (i : Int)), M) := if_neg (by omega)
        refine CallW.mono (p101 ((hMm.setOut (k := 21) (q := .var V21 [.str ⟨#[]⟩, .int .i64 0, .int .i64 0, .int .i64 0, .bool false]) (fun h => by omega)).setOut (k := 21) (q := (.var V21 [.str (N.flop i).name, .int .i64 (N.flop i).cell, .int .i64 (N.flop i).d, .int .i64 (N.flop i).en, .bool (N.flop i).init])) (fun h => by omega)) hS.ok (i : Int)) fun r m4 ⟨hr, hM4, hF4⟩ => ?_
        rw [hreg] at hr hM4
        subst hr
        have n21 : m4 21 = (.var V21 [.str (N.flop i).name, .int .i64 (N.flop i).cell, .int .i64 (N.flop i).d, .int .i64 (N.flop i).en, .bool (N.flop i).init]) := (hF4 21 (by decide)).trans (set_same _ _ _)
        have n50 : m4 50 = .row V 108 1 (N.first + N.ng) gl := (hF4 50 (by decide)).trans (by rw [set_ne (by decide), set_ne (by decide)]; exact m50)
        simp -implicitDefEqProofs only [vqa, Nat.reduceEqDiff, Nat.reduceAdd, reduceIte, Nat.reduceLeDiff, Nat.reduceBEq, Nat.reduceLT, Nat.reduceSub, Int.reduceLT, Int.reduceLE, Int.reduceEq, Int.reduceToNat, Nat.reduceMul, eq_self, implies_true, forall_const, vqt, n21, n50]
        have hsm : ∀ k, (1000 ≤ k ∧ k < 2000 + 20000 * N.ng + 1000 * i) → k < 2000 + 20000 * N.ng + 1000 * i := fun k h => h.2
        obtain ⟨d, hs, hb, hv⟩ := mux_ms g hS.ok hS.good hMn hMr hL hi
        refine CallW.mono (p100 (2000 + 20000 * N.ng + 1000 * i) hM4 hS.ok hsm (l (N.flop i).en.toNat) (l (N.flop i).d.toNat) (2 * (1 + M.ni + (i : Int)))) fun r m5 ⟨hr, hM5, hF5⟩ => ?_
        subst hr
        generalize M.muxF (l (N.flop i).en.toNat) (l (N.flop i).d.toNat) (2 * (1 + M.ni + (i : Int))) = P at hM5 hs hb hv ⊢
        have k21 : m5 21 = (.var V21 [.str (N.flop i).name, .int .i64 (N.flop i).cell, .int .i64 (N.flop i).d, .int .i64 (N.flop i).en, .bool (N.flop i).init]) := (hF5 21 (by omega) (fun h => by omega)).trans n21
        have k50 : m5 50 = .row V 108 1 (N.first + N.ng) gl := (hF5 50 (by omega) (fun h => by omega)).trans n50
        have kk : ∀ k, k < 1000 → k ≠ 21 → m5 k = m k := fun k hk h21 => by rw [hF5 k (by omega) (fun h => by omega), hF4 k (by omega), set_ne h21, set_ne h21]
        have k1 := (kk 1 (by decide) (by decide)).trans m1
        have k2 := (kk 2 (by decide) (by decide)).trans m2
        have hO5 : Acc 108 108 1 N.nk (fun k a => a = .int .i64 (l (N.outs k).toNat)) (e 16) m5 := hO.keep (kk 108 (by decide) (by decide))
        have hS' := (hS.trans hs).mono (show _ ≤ budN N N.ng + 3 * (i + 1) by omega)
        have hL' : Lits N P.2 l N.ng (b && d) := ⟨fun k hk => hs.pre.bef (hL.bef k hk), fun e x y k hk => by
          have hb : b = true := by cases b with | true => rfl | false => exact Bool.noConfusion e
          rw [hs.pre.lv x y (hL.bef k hk), hL.val hb x y k hk]⟩
        have hX' : ∀ k, k < i + 1 → P.2.bef (if k < i then nx k else P.1) ∧ ((b && d) = true → ∀ x y, P.2.lv x y (if k < i then nx k else P.1) = nextB N (bv N x y N.ng) k) := fun k hk => by
          by_cases hk' : k < i
          · rw [if_pos hk']
            obtain ⟨u1, u2⟩ := hX k hk'
            exact ⟨hs.pre.bef u1, fun e x y => by
              have hb : b = true := by cases b with | true => rfl | false => exact Bool.noConfusion e
              rw [hs.pre.lv x y u1, u2 hb x y]⟩
          · obtain rfl : k = i := by omega
            rw [if_neg hk']
            exact ⟨hb, fun e => by
              cases b with
              | true => exact hv rfl e
              | false => exact Bool.noConfusion e⟩
        have hM6 : MkA m5 1011 v gi gr P.2 (fun j => 1000 ≤ j ∧ j < 2000 + 20000 * N.ng + 1000 * (i + 1)) := hM5.wide fun k hk => hk.elim (fun h => ⟨h.1, by have := h.2; omega⟩) fun h => ⟨by omega, by omega⟩
        rcases hA with ⟨hz, e17⟩ | ⟨ver, gg, e17, m135, hg⟩
        · simp -implicitDefEqProofs only [vqa, Nat.reduceEqDiff, Nat.reduceAdd, reduceIte, Nat.reduceLeDiff, Nat.reduceBEq, Nat.reduceLT, Nat.reduceSub, Int.reduceLT, Int.reduceLE, Int.reduceEq, Int.reduceToNat, Nat.reduceMul, eq_self, implies_true, forall_const, vqt, k21, k50, h1, k1, h2, k2, e8, e111, e112, e113, e9, k50, e17]
          refine ⟨hi, wI (by omega) (by omega), hO5.keep ((set_ne (by decide) _ _).trans (set_ne (by decide) _ _)), P.2, fun k => if k < i then nx k else P.1, b && d, hM6.congr (fun k hk => (set_ne (by have := hk.1; omega) _ _).trans (set_ne (by have := hk.1; omega) _ _)) (fun _ h => h), hS', hL', hX', .inr ⟨_, _, by rw [hz], by rw [hz]; exact set_same _ _ _, fun k hk => ?_⟩⟩
          obtain rfl : k = 0 := by omega
          show _ = AV.int .i64 (if 0 < i then _ else P.1)
          rw [if_neg (by omega)]
          rfl
        · have k135 := (kk 135 (by decide) (by decide)).trans m135
          simp -implicitDefEqProofs only [vqa, Nat.reduceEqDiff, Nat.reduceAdd, reduceIte, Nat.reduceLeDiff, Nat.reduceBEq, Nat.reduceLT, Nat.reduceSub, Int.reduceLT, Int.reduceLE, Int.reduceEq, Int.reduceToNat, Nat.reduceMul, eq_self, implies_true, forall_const, vqt, k21, k50, h1, k1, h2, k2, e8, e111, e112, e113, e9, k50, e17, k135]
          refine ⟨⟨by omega, by omega⟩, hi, wI (by omega) (by omega), hO5.keep ((set_ne (by decide) _ _).trans (set_ne (by decide) _ _)), P.2, fun k => if k < i then nx k else P.1, b && d, hM6.congr (fun k hk => (set_ne (by have := hk.1; omega) _ _).trans (set_ne (by have := hk.1; omega) _ _)) (fun _ h => h), hS', hL', hX', .inr ⟨_, _, rfl, set_same _ _ _, pushF (p := fun k => .int .i64 (if k < i then nx k else P.1)) (fun k hk => ?_) ?_⟩⟩
          · rw [hg k hk, if_pos hk]
          · show _ = AV.int .i64 (if i < i then _ else P.1)
            rw [if_neg (Nat.lt_irrefl _)]
      · clear hMm m50 hS hL hw16 hA h1 m1 h2 m2 e8 e96 e97 e98 e17 e9 m e M b
        rintro e m ⟨h1, m1, h2, m2, e8, e111, e112, e113, e9, m50, hO, M, nx, b, hMm, hS, hL, hX, hA⟩
        unfold a53_5
        generalize hw16 : e 16 = w16 at hO
        generalize hw17 : e 17 = w17 at hA
        simp -implicitDefEqProofs only [vqa, Nat.reduceEqDiff, Nat.reduceAdd, reduceIte, Nat.reduceLeDiff, Nat.reduceBEq, Nat.reduceLT, Nat.reduceSub, Int.reduceLT, Int.reduceLE, Int.reduceEq, Int.reduceToNat, Nat.reduceMul, eq_self, implies_true, forall_const, h1, m1, h2, m2, e8, e111, e112, e113, e9, m50, hw16, hw17]
        have hMn : M.ni = N.ni := hS.pre.ni
        have hMr : M.nr = N.nf := hS.pre.nr
        generalize hB : 2000 + 20000 * N.ng + 1000 * N.nf = B at hMm
        have hB1 : 2000 ≤ B := by omega
        have hxL : ∀ (i : Nat) (z : Int), i < M.n → litOk (M.base + i) z → L64 z := fun i z hi h => by
          obtain ⟨q1, q2⟩ := h
          have e1 : M.base = 1 + M.ni + M.nr := rfl
          have := hS.ok.n
          unfold L64; omega
        have hbL : ∀ z, M.bef z → L64 z := fun z h => by
          have := Mak.nodes_le hS.ok
          obtain ⟨q1, q2⟩ := h
          unfold L64; omega
        have hob : ∀ k, k < N.nk → M.bef (l (N.outs k).toNat) := fun k hk => hL.bef _ (by have := g.outs k hk; omega)
        have gok : (M.gra N.inn (rgN N) N.no N.out N.nk (fun k => l (N.outs k).toNat) (fun i => (rgN N i).next)).Ok := ⟨hS.ok.ni, hno, hS.ok.nr, by have := hS.ok.n; show M.n ≤ _; omega, hnk, fun i hi => ok.inn i (hMn ▸ hi), fun i hi => ok.out i hi, fun i hi => ⟨(ok.flop i (hMr ▸ hi)).1, show L64 0 from ⟨by decide, by decide⟩⟩, fun i hi => hxL i _ hi (hS.good i hi).1, fun i hi => hxL i _ hi (hS.good i hi).2, fun i hi => hbL _ (hob i hi)⟩
        obtain ⟨cA, vA, mA, za, zb, ⟨fo, zc, zd⟩, ze⟩ := hO.frz
        obtain ⟨cB, vB, mB, ya, yb, ⟨fx, yc, yd⟩, ye⟩ := (hA.keep (m' := mA) (ze 135 (by decide))).frz
        have hMB : MkA mB 1011 v gi gr M (fun j => 1000 ≤ j ∧ j < B) := hMm.congr (fun k hk => (ye k (by have := hk.1; omega)).trans (ze k (by have := hk.1; omega))) (fun _ h => h)
        refine CallW.frzK 2 (show 2 < 4 by decide) za zb ?_
        refine CallW.frzK 3 (show 3 < 4 by decide) ya yb ?_
        simp only [List.set, zc, yc]
        refine CallW.mono (p102 B hMB hS.ok (fun i hi => hi.2) (nin := N.inn) (rg := rgN N) (out := N.out) (outs := fun k => l (N.outs k).toNat) (nx := nx) (fun i hi => hgi i (hMn ▸ hi)) (fun i hi => hgr i (hMr ▸ hi)) c1 zd yd gok (fun i hi => hbL _ (hX i hi).1) hnf) fun r m6 ⟨hcase, hFr⟩ => ?_
        have kk : ∀ k, k < 1000 → k ≠ 108 → k ≠ 135 → m6 k = m k := fun k hk h1 h2 => by rw [hFr k (by omega) (fun h => by have := h.1; omega), ye k h2, ze k h1]
        have k1 := (kk 1 (by decide) (by decide) (by decide)).trans m1
        have k2 := (kk 2 (by decide) (by decide) (by decide)).trans m2
        have hbad : b = true → M.bad = 0 := fun e => (hS.fine e).trans rfl
        have hful : b = false → M.bad = 3 ∧ 4000 < budN N N.ng + 3 * N.nf := fun e => ⟨(hS.full e).1.trans rfl, by have := (hS.full e).2; have e0 : (newM N.ni N.nf).n = 0 := rfl; omega⟩
        have hsame : b = true → graphF (gN N M (fun k => l (N.outs k).toNat) nx) = 0 ∧ SameV N (gN N M (fun k => l (N.outs k).toNat) nx) := fun e => gN_same hF hS.ok hS.good hMn hMr (fun k hk => ⟨hob k hk, fun x y => hL.val e x y _ (by have := g.outs k hk; omega)⟩) (fun i hi => ⟨(hX i hi).1, (hX i hi).2 e⟩)
        have hgF : b = true → M.graF N.nf (gN N M (fun k => l (N.outs k).toNat) nx) = 0 := fun e => by unfold Mak.graF; rw [if_neg (by rw [hbad e]; simp), if_neg (by omega)]; exact (hsame e).1
        have hgF3 : b = false → M.graF N.nf (gN N M (fun k => l (N.outs k).toNat) nx) = 3 := fun e => by unfold Mak.graF; rw [if_pos (by rw [(hful e).1]; decide)]; exact (hful e).1
        have hgra : M.gra N.inn (rgN N) N.no N.out N.nk (fun k => l (N.outs k).toNat) nx = gN N M (fun k => l (N.outs k).toNat) nx := rfl
        rw [hgra] at hcase
        cases b with
        | false =>
          rw [hgF3 rfl] at hcase
          rcases hcase with ⟨_, hr⟩ | ⟨h0, _⟩
          · subst hr
            simp -implicitDefEqProofs only [vqa, Nat.reduceEqDiff, Nat.reduceAdd, reduceIte, Nat.reduceLeDiff, Nat.reduceBEq, Nat.reduceLT, Nat.reduceSub, Int.reduceLT, Int.reduceLE, Int.reduceEq, Int.reduceToNat, Nat.reduceMul, eq_self, implies_true, forall_const, h1, k1, h2, k2, e8, e111, e112, e113, e9]
            exact ⟨_, _, rfl, fun _ => ⟨_, _, _, _, _, rfl⟩, fun k => absurd hF k, fun _ => .inl ⟨rfl, (hful rfl).2⟩⟩
          · exact absurd h0 (by decide)
        | true =>
          rw [hgF rfl] at hcase
          rcases hcase with ⟨h0, _⟩ | ⟨_, a0, a1, rv, a3, a4, hr, q0, q1, q3, q4, hR⟩
          · exact absurd rfl h0
          subst hr
          obtain ⟨t1, t2, t3⟩ : rv.okv = true ∧ rv.cells = [rv] ∧ rv.isCell = true := by rcases hR with ⟨_, rfl⟩ | ⟨_, _, rfl, _, _⟩ <;> exact ⟨rfl, rfl, rfl⟩
          simp -implicitDefEqProofs only [vqa, Nat.reduceEqDiff, Nat.reduceAdd, reduceIte, Nat.reduceLeDiff, Nat.reduceBEq, Nat.reduceLT, Nat.reduceSub, Int.reduceLT, Int.reduceLE, Int.reduceEq, Int.reduceToNat, Nat.reduceMul, eq_self, implies_true, forall_const, h1, k1, h2, k2, e8, e111, e112, e113, e9, t1, t2, t3]
          have gok' : (gN N M (fun k => l (N.outs k).toNat) nx).Ok := ⟨gok.ni, gok.no, gok.nr, gok.na, gok.nk, gok.inn, gok.out, fun i hi => ⟨(gok.reg i hi).1, hbL _ (hX i (hMr ▸ hi)).1⟩, gok.A, gok.B, gok.outs⟩
          have hD : ∀ gg : Nat → AV, (∀ k, k < M.nr → gg k = (⟨(rgN N k).name, nx k, (rgN N k).init⟩ : RegV).av) → GraC [.fs M.ni a0, .fs N.no a1, .fs M.nr gg, .fs M.n a3, .fs N.nk a4] (gN N M (fun k => l (N.outs k).toNat) nx) := fun gg hgg => ⟨a0, a1, gg, a3, a4, rfl, q0, q1, hgg, q3, q4⟩
          obtain ⟨hz0, hSV⟩ := hsame rfl
          have hCl : ∀ mm : Mem, mm (B + 1101) = m6 (B + 1101) → CallW PP 103 [.agg [.fs M.ni a0, .fs N.no a1, rv, .fs M.n a3, .fs N.nk a4]] mm fun r m' => (∃ ds n f G, r = .tup [.agg ds, .fs n f, .int .i64 0] ∧ GraC ds G ∧ G.Ok ∧ graphF G = 0 ∧ SameV N G) ∧ ∀ k, k < 1000 → m' k = mm k := fun mm hmm => by
            have fin : ∀ {gg : Nat → AV} (hgg : ∀ k, k < M.nr → gg k = (⟨(rgN N k).name, nx k, (rgN N k).init⟩ : RegV).av) (m0 : Mem), (∀ k, k < 1000 → m0 k = mm k) → CallW PP 103 [.agg [.fs M.ni a0, .fs N.no a1, .fs M.nr gg, .fs M.n a3, .fs N.nk a4]] m0 fun r m' => (∃ ds n f G, r = .tup [.agg ds, .fs n f, .int .i64 0] ∧ GraC ds G ∧ G.Ok ∧ graphF G = 0 ∧ SameV N G) ∧ ∀ k, k < 1000 → m' k = mm k := fun hgg m0 h0 => by
              refine CallW.fz (p103 (hD _ hgg) gok') rfl rfl fun r ⟨ds, n, f, hr, _, hr2⟩ => ⟨by subst hr; obtain ⟨⟨_, _, _, _, _, rfl, _⟩, _⟩ := hr2 hz0; rfl, ?_⟩
              obtain ⟨hG, _, _⟩ := hr2 hz0
              rw [hz0] at hr
              exact ⟨⟨ds, n, f, _, hr, hG, cleanG_ok (good_of hz0) gok' _, clean_F hz0 (keepOk _), hSV.clean hz0 (keepOk _)⟩, h0⟩
            rcases hR with ⟨hz, rfl⟩ | ⟨ver, gg, rfl, mA, hgg⟩
            · have hf0 := fin (gg := fun _ => .undef) (fun k hk => absurd hk (by omega)) mm (fun _ _ => rfl)
              rw [hz] at hf0
              refine CallW.frzW (by simp -implicitDefEqProofs only [vqa, Nat.reduceEqDiff, Nat.reduceAdd, reduceIte, Nat.reduceLeDiff, Nat.reduceBEq, Nat.reduceLT, Nat.reduceSub, Int.reduceLT, Int.reduceLE, Int.reduceEq, Int.reduceToNat, Nat.reduceMul, eq_self, implies_true, forall_const]; rfl) (by simp only [and_self]) ?_
              exact hf0
            · have mA' := hmm.trans mA
              refine CallW.frzW (by simp -implicitDefEqProofs only [vqa, Nat.reduceEqDiff, Nat.reduceAdd, reduceIte, Nat.reduceLeDiff, Nat.reduceBEq, Nat.reduceLT, Nat.reduceSub, Int.reduceLT, Int.reduceLE, Int.reduceEq, Int.reduceToNat, Nat.reduceMul, eq_self, implies_true, forall_const, mA']; rfl) (by simp only [and_self]) ?_
              exact fin hgg _ fun k hk => set_ne (by omega) _ _
          refine CallW.mono (hCl _ ((set_ne (by omega) _ _).trans (set_ne (by omega) _ _))) fun r m7 ⟨⟨ds, n, f, G, hr, hG, okG, hGF, hSG⟩, hF7⟩ => ?_
          subst hr
          have hG0 := hG
          obtain ⟨u0, u1, u2, u3, u4, rfl, _⟩ := hG
          have j1 := (hF7 1 (by decide)).trans ((set_ne (by decide) _ _).trans ((set_ne (by decide) _ _).trans k1))
          have j2 := (hF7 2 (by decide)).trans ((set_ne (by decide) _ _).trans ((set_ne (by decide) _ _).trans k2))
          have j22 := (hF7 22 (by decide)).trans (set_same _ _ _)
          simp -implicitDefEqProofs only [vqa, Nat.reduceEqDiff, Nat.reduceAdd, reduceIte, Nat.reduceLeDiff, Nat.reduceBEq, Nat.reduceLT, Nat.reduceSub, Int.reduceLT, Int.reduceLE, Int.reduceEq, Int.reduceToNat, Nat.reduceMul, eq_self, implies_true, forall_const, h1, j1, h2, j2, e8, e111, e112, e113, e9, j22]
          exact ⟨_, _, rfl, fun k => absurd rfl k, fun k => absurd hF k, fun _ => .inr ⟨rfl, G, hG0, okG, hGF, hSG⟩⟩
end Go.Ab
