/- Walks: Check of graphs. -/
import Derived.Test.YtiecnmojbdogfaaSaNames
import Derived.Test.YtiecnmojbdogfaaSaMak0
import Derived.Test.YtiecnmojbdogfaaLwGraph
set_option linter.unusedSimpArgs false
set_option linter.unusedVariables false
namespace Go.Ab
open Go
def a58 : AC := (.seq (.ops [⟨(some 1), none, (.e (.box 1 0 (.t 0)))⟩, ⟨(some 2), none, (.v (.mv (.c (.int .i64 0))))⟩]) (.seq (.ops [⟨(some 3), none, (.v (.fld 0 (.t 1)))⟩, ⟨(some 4), none, (.v (.load 1 false (.t 3)))⟩, ⟨(some 5), none, (.v (.len (.t 4)))⟩, ⟨(some 6), none, (.v (.bin .add (.c (.int .i64 1)) (.t 5)))⟩, ⟨(some 7), none, (.v (.fld 2 (.t 1)))⟩, ⟨(some 8), none, (.v (.load 1 false (.t 7)))⟩, ⟨(some 9), none, (.v (.len (.t 8)))⟩, ⟨(some 10), none, (.v (.bin .add (.t 6) (.t 9)))⟩, ⟨(some 2), none, (.v (.mv (.t 10)))⟩]) .ret))
def r58 : List AI := [(.mv (.t 2))]
theorem f58 : Fn PP 58 1 a58 r58 := Fn.of (fn := Go.Proofs.Try.f58) (by kernel_rfl) (by kernel_rfl) (by kernel_rfl)
def a41 : AC := (.seq (.ops [⟨(some 1), none, (.e (.box 1 0 (.t 0)))⟩, ⟨(some 2), none, (.v (.mv (.c (.int .i64 0))))⟩]) (.seq (.any [⟨(some 3), none, (.v (.load 5 true (.t 1)))⟩, ⟨(some 4), none, (.call (.c (.fn 58 [])) [(.t 3)])⟩, ⟨(some 5), none, (.v (.fld 3 (.t 1)))⟩, ⟨(some 6), none, (.v (.load 1 false (.t 5)))⟩, ⟨(some 7), none, (.v (.len (.t 6)))⟩, ⟨(some 8), none, (.v (.bin .add (.t 4) (.t 7)))⟩, ⟨(some 2), none, (.v (.mv (.t 8)))⟩] [[], [0], [], [2], [3], [1, 4], [5, 1, 0, 1, 2, 3, 4, 5]]) .ret))
def r41 : List AI := [(.mv (.t 2))]
theorem f41 : Fn PP 41 1 a41 r41 := Fn.of (fn := Go.Proofs.Try.f41) (by kernel_rfl) (by kernel_rfl) (by kernel_rfl)
def a40_0 : AC := (.seq (.ops [⟨(some 51), none, (.v (.bin .lss (.t 50) (.t 49)))⟩]) (.seq (.cond (.t 51) .skip (.exit 0)) (.seq (.block 1 (.seq (.ops [⟨(some 52), none, (.v (.idx 3 (.t 48) (.t 50)))⟩, ⟨(some 53), none, (.v (.load 3 true (.t 52)))⟩, ⟨(some 5), none, (.e (.alloc 5 [(.str ⟨#[]⟩), (.int .i64 0), (.bool false)]))⟩, ⟨none, none, (.e (.store 3 (.t 5) (.t 53)))⟩]) (.ops [⟨(some 54), none, (.v (.mv (.t 3)))⟩, ⟨(some 55), none, (.v (.fld 0 (.t 5)))⟩, ⟨(some 56), none, (.v (.load 1 false (.t 55)))⟩, ⟨(some 57), none, (.e (.lit 57 9 1 1 [(.str ⟨#[]⟩)] [(0, (.t 56))]))⟩, ⟨(some 58), none, (.e (.app 58 9 1 16 (.t 54) (.t 57)))⟩, ⟨(some 3), none, (.v (.mv (.t 58)))⟩]))) (.ops [⟨(some 59), none, (.v (.bin .add (.t 50) (.c (.int .i64 1))))⟩, ⟨(some 50), none, (.v (.mv (.t 59)))⟩]))))
def a40_1 : AC := (.seq (.ops [⟨(some 77), none, (.v (.bin .lss (.t 76) (.t 75)))⟩]) (.seq (.cond (.t 77) .skip (.exit 2)) (.seq (.block 3 (.seq (.ops [⟨(some 78), none, (.v (.mv (.t 76)))⟩, ⟨(some 79), none, (.v (.idx 2 (.t 74) (.t 76)))⟩, ⟨(some 80), none, (.v (.load 2 true (.t 79)))⟩, ⟨(some 10), none, (.e (.alloc 10 [(.int .i64 0), (.int .i64 0)]))⟩, ⟨(some 9), none, (.v (.mv (.t 78)))⟩, ⟨none, none, (.e (.store 2 (.t 10) (.t 80)))⟩]) (.seq (.ops [⟨(some 81), none, (.v (.fld 0 (.t 10)))⟩, ⟨(some 82), none, (.v (.load 1 false (.t 81)))⟩, ⟨(some 83), none, (.v (.mv (.t 8)))⟩, ⟨(some 84), none, (.v (.mv (.t 9)))⟩, ⟨(some 85), none, (.v (.bin .add (.t 83) (.t 84)))⟩, ⟨(some 86), none, (.call (.c (.fn 59 [])) [(.t 82), (.t 85)])⟩, ⟨(some 87), none, (.v (.not (.t 86)))⟩, ⟨(some 88), none, (.v (.mv (.t 87)))⟩, ⟨(some 89), (some (88, false)), (.v (.fld 1 (.t 10)))⟩, ⟨(some 90), (some (88, false)), (.v (.load 1 false (.t 89)))⟩, ⟨(some 91), (some (88, false)), (.v (.mv (.t 8)))⟩, ⟨(some 92), (some (88, false)), (.v (.mv (.t 9)))⟩, ⟨(some 93), (some (88, false)), (.v (.bin .add (.t 91) (.t 92)))⟩, ⟨(some 94), (some (88, false)), (.call (.c (.fn 59 [])) [(.t 90), (.t 93)])⟩, ⟨(some 95), (some (88, false)), (.v (.not (.t 94)))⟩, ⟨(some 96), none, (.v (.pick (.t 88) (.c (.bool true)) (.t 95)))⟩]) (.cond (.t 96) (.seq (.ops [⟨(some 2), none, (.v (.mv (.c (.int .i64 2))))⟩]) .ret) .skip)))) (.ops [⟨(some 97), none, (.v (.bin .add (.t 76) (.c (.int .i64 1))))⟩, ⟨(some 76), none, (.v (.mv (.t 97)))⟩]))))
def a40_2 : AC := (.seq (.ops [⟨(some 107), none, (.v (.bin .lss (.t 106) (.t 105)))⟩]) (.seq (.cond (.t 107) .skip (.exit 4)) (.seq (.block 5 (.seq (.ops [⟨(some 108), none, (.v (.idx 3 (.t 104) (.t 106)))⟩, ⟨(some 109), none, (.v (.load 3 true (.t 108)))⟩, ⟨(some 12), none, (.e (.alloc 12 [(.str ⟨#[]⟩), (.int .i64 0), (.bool false)]))⟩, ⟨none, none, (.e (.store 3 (.t 12) (.t 109)))⟩]) (.seq (.ops [⟨(some 110), none, (.v (.fld 1 (.t 12)))⟩, ⟨(some 111), none, (.v (.load 1 false (.t 110)))⟩, ⟨(some 112), none, (.v (.mv (.t 8)))⟩, ⟨(some 113), none, (.call (.c (.fn 59 [])) [(.t 111), (.t 112)])⟩, ⟨(some 114), none, (.v (.not (.t 113)))⟩]) (.cond (.t 114) (.seq (.ops [⟨(some 2), none, (.v (.mv (.c (.int .i64 2))))⟩]) .ret) .skip)))) (.ops [⟨(some 115), none, (.v (.bin .add (.t 106) (.c (.int .i64 1))))⟩, ⟨(some 106), none, (.v (.mv (.t 115)))⟩]))))
def a40_3 : AC := (.seq (.ops [⟨(some 120), none, (.v (.bin .lss (.t 119) (.t 118)))⟩]) (.seq (.cond (.t 120) .skip (.exit 6)) (.seq (.block 7 (.seq (.ops [⟨(some 121), none, (.v (.idx 1 (.t 117) (.t 119)))⟩, ⟨(some 122), none, (.v (.load 1 false (.t 121)))⟩, ⟨(some 14), none, (.v (.mv (.t 122)))⟩]) (.seq (.ops [⟨(some 123), none, (.v (.mv (.t 14)))⟩, ⟨(some 124), none, (.v (.mv (.t 8)))⟩, ⟨(some 125), none, (.call (.c (.fn 59 [])) [(.t 123), (.t 124)])⟩, ⟨(some 126), none, (.v (.not (.t 125)))⟩]) (.cond (.t 126) (.seq (.ops [⟨(some 2), none, (.v (.mv (.c (.int .i64 2))))⟩]) .ret) .skip)))) (.ops [⟨(some 127), none, (.v (.bin .add (.t 119) (.c (.int .i64 1))))⟩, ⟨(some 119), none, (.v (.mv (.t 127)))⟩]))))
def a40 : AC := (.seq (.ops [⟨(some 1), none, (.e (.box 1 0 (.t 0)))⟩, ⟨(some 2), none, (.v (.mv (.c (.int .i64 0))))⟩]) (.seq (.seq (.ops [⟨(some 15), none, (.v (.fld 0 (.t 1)))⟩, ⟨(some 16), none, (.v (.load 1 false (.t 15)))⟩, ⟨(some 17), none, (.v (.len (.t 16)))⟩, ⟨(some 18), none, (.v (.bin .gtr (.t 17) (.c (.int .i64 128))))⟩, ⟨(some 19), none, (.v (.mv (.t 18)))⟩, ⟨(some 20), (some (19, false)), (.v (.fld 1 (.t 1)))⟩, ⟨(some 21), (some (19, false)), (.v (.load 1 false (.t 20)))⟩, ⟨(some 22), (some (19, false)), (.v (.len (.t 21)))⟩, ⟨(some 23), (some (19, false)), (.v (.bin .gtr (.t 22) (.c (.int .i64 128))))⟩, ⟨(some 24), none, (.v (.pick (.t 19) (.c (.bool true)) (.t 23)))⟩, ⟨(some 25), none, (.v (.mv (.t 24)))⟩, ⟨(some 26), (some (25, false)), (.v (.fld 2 (.t 1)))⟩, ⟨(some 27), (some (25, false)), (.v (.load 1 false (.t 26)))⟩, ⟨(some 28), (some (25, false)), (.v (.len (.t 27)))⟩, ⟨(some 29), (some (25, false)), (.v (.bin .gtr (.t 28) (.c (.int .i64 288))))⟩, ⟨(some 30), none, (.v (.pick (.t 25) (.c (.bool true)) (.t 29)))⟩, ⟨(some 31), none, (.v (.mv (.t 30)))⟩, ⟨(some 32), (some (31, false)), (.v (.fld 3 (.t 1)))⟩, ⟨(some 33), (some (31, false)), (.v (.load 1 false (.t 32)))⟩, ⟨(some 34), (some (31, false)), (.v (.len (.t 33)))⟩, ⟨(some 35), (some (31, false)), (.v (.bin .gtr (.t 34) (.c (.int .i64 4000))))⟩, ⟨(some 36), none, (.v (.pick (.t 31) (.c (.bool true)) (.t 35)))⟩]) (.cond (.t 36) (.seq (.ops [⟨(some 2), none, (.v (.mv (.c (.int .i64 3))))⟩]) .ret) .skip)) (.seq (.seq (.ops [⟨(some 37), none, (.v (.fld 1 (.t 1)))⟩, ⟨(some 38), none, (.v (.load 1 false (.t 37)))⟩, ⟨(some 39), none, (.v (.len (.t 38)))⟩, ⟨(some 40), none, (.v (.fld 4 (.t 1)))⟩, ⟨(some 41), none, (.v (.load 1 false (.t 40)))⟩, ⟨(some 42), none, (.v (.len (.t 41)))⟩, ⟨(some 43), none, (.v (.bin .neq (.t 39) (.t 42)))⟩]) (.cond (.t 43) (.seq (.ops [⟨(some 2), none, (.v (.mv (.c (.int .i64 4))))⟩]) .ret) .skip)) (.seq (.ops [⟨(some 44), none, (.v (.fld 0 (.t 1)))⟩, ⟨(some 45), none, (.v (.load 1 false (.t 44)))⟩, ⟨(some 46), none, (.call (.c (.fn 56 [])) [(.t 45)])⟩, ⟨(some 3), none, (.v (.mv (.t 46)))⟩]) (.seq (.seq (.ops [⟨(some 47), none, (.v (.fld 2 (.t 1)))⟩, ⟨(some 48), none, (.v (.load 1 false (.t 47)))⟩, ⟨(some 49), none, (.v (.len (.t 48)))⟩, ⟨(some 50), none, (.v (.mv (.c (.int .i64 0))))⟩]) (.block 0 (.loop a40_0))) (.seq (.seq (.ops [⟨(some 60), none, (.v (.mv (.t 3)))⟩, ⟨(some 61), none, (.call (.c (.fn 57 [])) [(.t 60)])⟩, ⟨(some 6), none, (.v (.mv (.t 61)))⟩]) (.seq (.ops [⟨(some 62), none, (.v (.mv (.t 6)))⟩, ⟨(some 63), none, (.v (.bin .neq (.t 62) (.c (.int .i64 0))))⟩]) (.cond (.t 63) (.seq (.ops [⟨(some 64), none, (.v (.mv (.t 6)))⟩, ⟨(some 2), none, (.v (.mv (.t 64)))⟩]) .ret) .skip))) (.seq (.seq (.ops [⟨(some 65), none, (.v (.fld 1 (.t 1)))⟩, ⟨(some 66), none, (.v (.load 1 false (.t 65)))⟩, ⟨(some 67), none, (.call (.c (.fn 57 [])) [(.t 66)])⟩, ⟨(some 7), none, (.v (.mv (.t 67)))⟩]) (.seq (.ops [⟨(some 68), none, (.v (.mv (.t 7)))⟩, ⟨(some 69), none, (.v (.bin .neq (.t 68) (.c (.int .i64 0))))⟩]) (.cond (.t 69) (.seq (.ops [⟨(some 70), none, (.v (.mv (.t 7)))⟩, ⟨(some 2), none, (.v (.mv (.t 70)))⟩]) .ret) .skip))) (.seq (.ops [⟨(some 71), none, (.v (.load 5 true (.t 1)))⟩, ⟨(some 72), none, (.call (.c (.fn 58 [])) [(.t 71)])⟩, ⟨(some 8), none, (.v (.mv (.t 72)))⟩]) (.seq (.seq (.ops [⟨(some 73), none, (.v (.fld 3 (.t 1)))⟩, ⟨(some 74), none, (.v (.load 1 false (.t 73)))⟩, ⟨(some 75), none, (.v (.len (.t 74)))⟩, ⟨(some 76), none, (.v (.mv (.c (.int .i64 0))))⟩]) (.block 2 (.loop a40_1))) (.seq (.ops [⟨(some 98), none, (.v (.mv (.t 8)))⟩, ⟨(some 99), none, (.v (.fld 3 (.t 1)))⟩, ⟨(some 100), none, (.v (.load 1 false (.t 99)))⟩, ⟨(some 101), none, (.v (.len (.t 100)))⟩, ⟨(some 102), none, (.v (.bin .add (.t 98) (.t 101)))⟩, ⟨(some 8), none, (.v (.mv (.t 102)))⟩]) (.seq (.seq (.ops [⟨(some 103), none, (.v (.fld 2 (.t 1)))⟩, ⟨(some 104), none, (.v (.load 1 false (.t 103)))⟩, ⟨(some 105), none, (.v (.len (.t 104)))⟩, ⟨(some 106), none, (.v (.mv (.c (.int .i64 0))))⟩]) (.block 4 (.loop a40_2))) (.seq (.seq (.ops [⟨(some 116), none, (.v (.fld 4 (.t 1)))⟩, ⟨(some 117), none, (.v (.load 1 false (.t 116)))⟩, ⟨(some 118), none, (.v (.len (.t 117)))⟩, ⟨(some 119), none, (.v (.mv (.c (.int .i64 0))))⟩]) (.block 6 (.loop a40_3))) (.seq (.ops [⟨(some 2), none, (.v (.mv (.c (.int .i64 0))))⟩]) .ret)))))))))))))
def r40 : List AI := [(.mv (.t 2))]
theorem f40 : Fn PP 40 1 a40 r40 := Fn.of (fn := Go.Proofs.Try.f40) (by kernel_rfl) (by kernel_rfl) (by kernel_rfl)

theorem p58 {G : Gra} {cs : List AV} (hG : GraC cs G) (ok : G.Ok) : Pure PP 58 [.agg cs] fun r => r = .int .i64 (G.base : Nat) := by
  obtain ⟨f0, f1, f2, f3, f4, rfl, g0, g1, g2, g3, g4⟩ := hG
  have hni := ok.ni; have hnr := ok.nr
  refine Fn.pure fmix f58 ?_
  unfold a58 r58
  simp -implicitDefEqProofs only [vqa, Nat.reduceEqDiff, Nat.reduceAdd, reduceIte, Nat.reduceLeDiff, Nat.reduceBEq, Nat.reduceLT, Nat.reduceSub, Int.reduceLT, Int.reduceLE, Int.reduceEq, Int.reduceToNat, Nat.reduceMul, eq_self, implies_true, forall_const]
  rw [wI (n := 1 + (G.ni : Int)) (by omega) (by omega), wI (by omega) (by omega)]
  unfold Gra.base; omega
theorem p41 {G : Gra} {cs : List AV} (hG : GraC cs G) (ok : G.Ok) : Pure PP 41 [.agg cs] fun r => r = .int .i64 (G.nodes : Nat) := by
  have pB := p58 hG ok
  obtain ⟨f0, f1, f2, f3, f4, rfl, g0, g1, g2, g3, g4⟩ := hG
  have hni := ok.ni; have hnr := ok.nr; have hna := ok.na
  refine Fn.pure fmix f41 ?_
  unfold a41 r41
  simp -implicitDefEqProofs only [vqa, Nat.reduceEqDiff, Nat.reduceAdd, reduceIte, Nat.reduceLeDiff, Nat.reduceBEq, Nat.reduceLT, Nat.reduceSub, Int.reduceLT, Int.reduceLE, Int.reduceEq, Int.reduceToNat, Nat.reduceMul, eq_self, implies_true, forall_const]
  refine vAny [0, 2, 3, 4, 1, 5, 6] 7 allL (by kernel_rfl) (by kernel_rfl) ?_
  simp -implicitDefEqProofs only [vqa, Nat.reduceEqDiff, Nat.reduceAdd, reduceIte, Nat.reduceLeDiff, Nat.reduceBEq, Nat.reduceLT, Nat.reduceSub, Int.reduceLT, Int.reduceLE, Int.reduceEq, Int.reduceToNat, Nat.reduceMul, eq_self, implies_true, forall_const]
  refine CallW.sc pB rfl ⟨⟨trivial, trivial, trivial, trivial, trivial, trivial⟩, trivial⟩ fun r hr => ⟨by subst hr; rfl, ?_⟩
  subst hr
  simp -implicitDefEqProofs only [vqa, Nat.reduceEqDiff, Nat.reduceAdd, reduceIte, Nat.reduceLeDiff, Nat.reduceBEq, Nat.reduceLT, Nat.reduceSub, Int.reduceLT, Int.reduceLE, Int.reduceEq, Int.reduceToNat, Nat.reduceMul, eq_self, implies_true, forall_const]
  rw [wI (by unfold Gra.base; omega) (by unfold Gra.base; omega)]
  unfold Gra.nodes; omega

theorem p56s (n : Nat) (f : Nat → AV) (hf : ∀ i, i < n → (f i).cells.length = 1 ∧ (f i).cells.all AV.isCell = true) (hn : n ≤ 1048576) : CallW PP 56 [.fs n f] mem0 fun r m => (r = .cap0 ∧ n = 0) ∨ ∃ id ver e sz n' g, r = .sl id ver n' ∧ m id = .row ver e sz n' g ∧ (n' = n ∧ e = 9 ∧ sz = 1 ∧ ∀ i, i < n → g i = f i) := by
  refine Fn.call fmix f56 ?_
  unfold a56 r56
  simp -implicitDefEqProofs only [vqa, Nat.reduceEqDiff, Nat.reduceAdd, reduceIte, Nat.reduceLeDiff, Nat.reduceBEq, Nat.reduceLT, Nat.reduceSub, Int.reduceLT, Int.reduceLE, Int.reduceEq, Int.reduceToNat, Nat.reduceMul, eq_self, implies_true, forall_const]
  refine ⟨?_, fun h => .inl h⟩
  exact ⟨⟨hf, by omega, by omega⟩, .inr ⟨_, _, _, _, _, _, rfl, if_pos rfl, rfl, rfl, rfl, fun i hi => rfl⟩⟩

theorem p59n (n : Nat) (l : Int) (hn : n ≤ 16777216) : Pure PP 59 [.int .i64 l, .int .i64 (n : Int)] fun r => r = .bool (decide (litOk n l)) := p59 l n (by omega) (by omega)
theorem litOk_dec {n : Nat} {l : Int} (h : badLit n l = 2) : ¬ litOk n l := fun k => by unfold badLit at h; rw [if_pos k] at h; cases h

theorem p40 {G : Gra} {cs : List AV} (hG : GraC cs G) (ok : G.Ok) : Pure PP 40 [.agg cs] fun r => r = .int .i64 (graphF G) := by
  have pF := p58 hG ok
  obtain ⟨f0, f1, f2, f3, f4, rfl, g0, g1, g2, g3, g4⟩ := hG
  have hni := ok.ni; have hnr := ok.nr; have hno := ok.no; have hna := ok.na; have hnk := ok.nk
  have hb0 : G.base ≤ 4194304 := by unfold Gra.base; omega
  have hn0 : G.nodes ≤ 8388608 := by unfold Gra.nodes; omega
  refine Fn.pure fmix f40 ?_
  unfold a40 r40
  simp -implicitDefEqProofs only [vqa, Nat.reduceEqDiff, Nat.reduceAdd, reduceIte, Nat.reduceLeDiff, Nat.reduceBEq, Nat.reduceLT, Nat.reduceSub, Int.reduceLT, Int.reduceLE, Int.reduceEq, Int.reduceToNat, Nat.reduceMul, eq_self, implies_true, forall_const]
  have big : 128 < G.ni ∨ 128 < G.no ∨ 288 < G.nr ∨ 4000 < G.na → (3 : Int) = graphF G := fun h => by unfold graphF; rw [if_pos h]
  refine ⟨fun b1 => ⟨fun b2 => ⟨fun b3 => ⟨fun b4 => big (by omega), fun b4 => ⟨fun b5 => ?_, fun b5 => ?_⟩⟩, fun b3 => big (by omega)⟩, fun b2 => big (by omega)⟩, fun b1 => big (by omega)⟩
  · unfold graphF; rw [if_neg (by omega), if_pos (by omega)]
  have s1 : graphF G = if namesF G.names (G.ni + G.nr) ≠ 0 then namesF G.names (G.ni + G.nr)
      else if namesF G.out G.no ≠ 0 then namesF G.out G.no
      else if scan (andAt G) G.na ≠ 0 then 2
      else if scan (fun i => badLit G.nodes (G.reg i).next) G.nr ≠ 0 then 2
      else scan (fun i => badLit G.nodes (G.outs i)) G.nk := by unfold graphF; rw [if_neg (by omega), if_neg (by omega)]
  have hnm0 : ∀ j, j < G.ni → G.names j = G.inn j := fun j hj => by unfold Gra.names; rw [if_pos hj]
  refine (CallW.own0 (K := fun v m => Acc2 46 58 9 1 G.ni (fun k a => a = .str (G.names k)) v m ∧ m 1 = .var ((mem0 1).ver + 1) [.fs G.ni f0, .fs G.no f1, .fs G.nr f2, .fs G.na f3, .fs G.nk f4]) 46 (p56s G.ni f0 (fun i hi => by rw [g0 i hi]; exact ⟨rfl, rfl⟩) hni) rfl rfl (fun h => ⟨.inl ⟨h, rfl⟩, rfl⟩) (fun e sz n g ⟨h1, h2, h3, h4⟩ => ?_)).mono fun v m hGm => ?_
  · subst h1; subst h2; subst h3
    refine And.intro (Or.inr ⟨46, _, g, .inl rfl, rfl, set_same _ _ _, fun j hj => ?_⟩) rfl
    show g j = .str (G.names j)
    rw [h4 j hj, g0 j hj, hnm0 j hj]
  obtain ⟨hA, hm1⟩ := hGm
  simp -implicitDefEqProofs only [vqa, Nat.reduceEqDiff, Nat.reduceAdd, reduceIte, Nat.reduceLeDiff, Nat.reduceBEq, Nat.reduceLT, Nat.reduceSub, Int.reduceLT, Int.reduceLE, Int.reduceEq, Int.reduceToNat, Nat.reduceMul, eq_self, implies_true, forall_const, hm1]
  refine vFor G.nr (fun i e m => e 1 = .ptr 1 ((mem0 1).ver + 1) 0 ∧ e 48 = .fs G.nr f2 ∧ e 49 = .int .i64 G.nr ∧ e 50 = .int .i64 i ∧ m 1 = .var ((mem0 1).ver + 1) [.fs G.ni f0, .fs G.no f1, .fs G.nr f2, .fs G.na f3, .fs G.nk f4] ∧ Acc2 46 58 9 1 (G.ni + i) (fun k a => a = .str (G.names k)) (e 3) m) ?_ ?_ ?_
  · simp -implicitDefEqProofs only [vqa, Nat.reduceEqDiff, Nat.reduceAdd, reduceIte, Nat.reduceLeDiff, Nat.reduceBEq, Nat.reduceLT, Nat.reduceSub, Int.reduceLT, Int.reduceLE, Int.reduceEq, Int.reduceToNat, Nat.reduceMul, eq_self, implies_true, forall_const, hm1]
    exact hA
  · rintro i e m hi hi' ⟨h1, h48, h49, h50, hm, hA⟩
    have hnm : G.names (G.ni + i) = (G.reg i).name := by unfold Gra.names; rw [if_neg (by omega)]; congr 2; omega
    unfold a40_0
    rcases hA with ⟨hz, h3⟩ | ⟨s, ver, g, rfl | rfl, h3, hm3, hg⟩
    · simp -implicitDefEqProofs only [vqa, Nat.reduceEqDiff, Nat.reduceAdd, reduceIte, Nat.reduceLeDiff, Nat.reduceBEq, Nat.reduceLT, Nat.reduceSub, Int.reduceLT, Int.reduceLE, Int.reduceEq, Int.reduceToNat, Nat.reduceMul, eq_self, implies_true, forall_const, h1, h48, h49, h50, hm, h3, hi', g2 i hi, RegV.av]
      have e0 : G.ni = 0 := by omega
      have e1 : i = 0 := by omega
      subst e1
      rw [e0] at hnm
      exact ⟨by omega, hi, wI (by omega) (by omega), Acc2.keep (by rw [e0]; exact (Acc.first (p := fun k a => a = .str (G.names k)) (congrArg _ hnm.symm)).two') rfl rfl⟩
    · simp -implicitDefEqProofs only [vqa, Nat.reduceEqDiff, Nat.reduceAdd, reduceIte, Nat.reduceLeDiff, Nat.reduceBEq, Nat.reduceLT, Nat.reduceSub, Int.reduceLT, Int.reduceLE, Int.reduceEq, Int.reduceToNat, Nat.reduceMul, eq_self, implies_true, forall_const, h1, h48, h49, h50, hm, h3, hm3, hi', g2 i hi, RegV.av]
      exact ⟨by omega, ⟨by omega, by omega⟩, hi, wI (by omega) (by omega), (Acc.push (p := fun k a => a = .str (G.names k)) hg (congrArg _ hnm.symm)).two⟩
    · simp -implicitDefEqProofs only [vqa, Nat.reduceEqDiff, Nat.reduceAdd, reduceIte, Nat.reduceLeDiff, Nat.reduceBEq, Nat.reduceLT, Nat.reduceSub, Int.reduceLT, Int.reduceLE, Int.reduceEq, Int.reduceToNat, Nat.reduceMul, eq_self, implies_true, forall_const, h1, h48, h49, h50, hm, h3, hm3, hi', g2 i hi, RegV.av]
      exact ⟨by omega, ⟨by omega, by omega⟩, hi, wI (by omega) (by omega), (Acc.push (p := fun k a => a = .str (G.names k)) hg (congrArg _ hnm.symm)).two'⟩
  · rintro e m ⟨h1, h48, h49, h50, hm, hA⟩
    unfold a40_0
    simp -implicitDefEqProofs only [vqa, Nat.reduceEqDiff, Nat.reduceAdd, reduceIte, Nat.reduceLeDiff, Nat.reduceBEq, Nat.reduceLT, Nat.reduceSub, Int.reduceLT, Int.reduceLE, Int.reduceEq, Int.reduceToNat, Nat.reduceMul, eq_self, implies_true, forall_const, h1, h48, h49, h50, hm]
    refine hA.call (R := fun r => r = .int .i64 (namesF G.names (G.ni + G.nr))) (fun g hg => p57 _ G.names g hg (by omega)) fun r hr => ⟨by subst hr; rfl, ?_⟩
    subst hr
    simp -implicitDefEqProofs only [vqa, Nat.reduceEqDiff, Nat.reduceAdd, reduceIte, Nat.reduceLeDiff, Nat.reduceBEq, Nat.reduceLT, Nat.reduceSub, Int.reduceLT, Int.reduceLE, Int.reduceEq, Int.reduceToNat, Nat.reduceMul, eq_self, implies_true, forall_const, h1, h48, h49, h50, hm]
    rw [s1]
    refine ⟨fun e1 => by rw [if_pos e1], fun e1 => ?_⟩
    rw [if_neg e1]
    refine CallW.sc (p57 G.no G.out f1 g1 hno) rfl ⟨trivial, trivial⟩ fun r hr => ⟨by subst hr; rfl, ?_⟩
    subst hr
    simp -implicitDefEqProofs only [vqa, Nat.reduceEqDiff, Nat.reduceAdd, reduceIte, Nat.reduceLeDiff, Nat.reduceBEq, Nat.reduceLT, Nat.reduceSub, Int.reduceLT, Int.reduceLE, Int.reduceEq, Int.reduceToNat, Nat.reduceMul, eq_self, implies_true, forall_const, h1, hm]
    refine ⟨fun e2 => by rw [if_pos e2], fun e2 => ?_⟩
    rw [if_neg e2]
    refine CallW.sc pF rfl ⟨⟨trivial, trivial, trivial, trivial, trivial, trivial⟩, trivial⟩ fun r hr => ⟨by subst hr; rfl, ?_⟩
    subst hr
    simp -implicitDefEqProofs only [vqa, Nat.reduceEqDiff, Nat.reduceAdd, reduceIte, Nat.reduceLeDiff, Nat.reduceBEq, Nat.reduceLT, Nat.reduceSub, Int.reduceLT, Int.reduceLE, Int.reduceEq, Int.reduceToNat, Nat.reduceMul, eq_self, implies_true, forall_const, h1, hm]
    refine vFor G.na (fun i e m => e 1 = .ptr 1 ((mem0 1).ver + 1) 0 ∧ e 8 = .int .i64 (G.base : Nat) ∧ e 74 = .fs G.na f3 ∧ e 75 = .int .i64 G.na ∧ e 76 = .int .i64 i ∧ m 1 = .var ((mem0 1).ver + 1) [.fs G.ni f0, .fs G.no f1, .fs G.nr f2, .fs G.na f3, .fs G.nk f4] ∧ scan (andAt G) i = 0) ?_ ?_ ?_
    · simp -implicitDefEqProofs only [vqa, Nat.reduceEqDiff, Nat.reduceAdd, reduceIte, Nat.reduceLeDiff, Nat.reduceBEq, Nat.reduceLT, Nat.reduceSub, Int.reduceLT, Int.reduceLE, Int.reduceEq, Int.reduceToNat, Nat.reduceMul, eq_self, implies_true, forall_const, h1, hm]
      rfl
    · rintro i e m hi hi' ⟨h1, h8, h74, h75, h76, hm, hs⟩
      have hend : andAt G i = 2 → (2 : Int) = if scan (andAt G) G.na ≠ 0 then 2 else if scan (fun i => badLit G.nodes (G.reg i).next) G.nr ≠ 0 then 2 else scan (fun i => badLit G.nodes (G.outs i)) G.nk := fun h => by
        rw [if_pos (by rw [scan_stop hs h (by decide) _ hi]; decide)]
      unfold a40_1
      simp -implicitDefEqProofs only [vqa, Nat.reduceEqDiff, Nat.reduceAdd, reduceIte, Nat.reduceLeDiff, Nat.reduceBEq, Nat.reduceLT, Nat.reduceSub, Int.reduceLT, Int.reduceLE, Int.reduceEq, Int.reduceToNat, Nat.reduceMul, eq_self, implies_true, forall_const, h1, h8, h74, h75, h76, hm, hi', g3 i hi]
      rw [wI (n := (G.base : Int) + i) (by omega) (by omega), ← Int.natCast_add]
      refine ⟨by omega, CallW.sc (p59n (G.base + i) (G.A i) (by omega)) rfl ⟨trivial, trivial, trivial⟩ fun r hr => ⟨by subst hr; rfl, ?_⟩⟩
      subst hr
      simp -implicitDefEqProofs only [vqa, Nat.reduceEqDiff, Nat.reduceAdd, reduceIte, Nat.reduceLeDiff, Nat.reduceBEq, Nat.reduceLT, Nat.reduceSub, Int.reduceLT, Int.reduceLE, Int.reduceEq, Int.reduceToNat, Nat.reduceMul, eq_self, implies_true, forall_const, h1, h8, h74, h75, h76, hm]
      refine ⟨fun k1 => ?_, fun k1 => hend (by unfold andAt; rw [if_neg (fun q => k1 q.1)])⟩
      rw [wI (n := (G.base : Int) + i) (by omega) (by omega), ← Int.natCast_add]
      refine CallW.sc (p59n (G.base + i) (G.B i) (by omega)) rfl ⟨trivial, trivial, trivial⟩ fun r hr => ⟨by subst hr; rfl, ?_⟩
      subst hr
      simp -implicitDefEqProofs only [vqa, Nat.reduceEqDiff, Nat.reduceAdd, reduceIte, Nat.reduceLeDiff, Nat.reduceBEq, Nat.reduceLT, Nat.reduceSub, Int.reduceLT, Int.reduceLE, Int.reduceEq, Int.reduceToNat, Nat.reduceMul, eq_self, implies_true, forall_const, h1, h8, h74, h75, h76, hm]
      refine ⟨fun k2 => hend (by unfold andAt; rw [if_neg (fun q => k2 q.2)]), fun k2 => ⟨hi, wI (by omega) (by omega), scan_step hs (by unfold andAt; rw [if_pos ⟨Classical.not_not.1 k1, Classical.not_not.1 k2⟩])⟩⟩
    · rintro e m ⟨h1, h8, h74, h75, h76, hm, hs⟩
      unfold a40_1
      simp -implicitDefEqProofs only [vqa, Nat.reduceEqDiff, Nat.reduceAdd, reduceIte, Nat.reduceLeDiff, Nat.reduceBEq, Nat.reduceLT, Nat.reduceSub, Int.reduceLT, Int.reduceLE, Int.reduceEq, Int.reduceToNat, Nat.reduceMul, eq_self, implies_true, forall_const, h1, h8, h74, h75, h76, hm]
      rw [hs, wI (n := (G.base : Int) + G.na) (by omega) (by omega), ← Int.natCast_add]
      simp only [ne_eq, not_true, if_false]
      refine vFor G.nr (fun i e m => e 1 = .ptr 1 ((mem0 1).ver + 1) 0 ∧ e 8 = .int .i64 (G.nodes : Nat) ∧ e 104 = .fs G.nr f2 ∧ e 105 = .int .i64 G.nr ∧ e 106 = .int .i64 i ∧ m 1 = .var ((mem0 1).ver + 1) [.fs G.ni f0, .fs G.no f1, .fs G.nr f2, .fs G.na f3, .fs G.nk f4] ∧ scan (fun i => badLit G.nodes (G.reg i).next) i = 0) ?_ ?_ ?_
      · simp -implicitDefEqProofs only [vqa, Nat.reduceEqDiff, Nat.reduceAdd, reduceIte, Nat.reduceLeDiff, Nat.reduceBEq, Nat.reduceLT, Nat.reduceSub, Int.reduceLT, Int.reduceLE, Int.reduceEq, Int.reduceToNat, Nat.reduceMul, eq_self, implies_true, forall_const, h1, hm]
        exact ⟨rfl, rfl⟩
      · rintro i e m hi hi' ⟨h1, h8, h104, h105, h106, hm, hs⟩
        unfold a40_2
        simp -implicitDefEqProofs only [vqa, Nat.reduceEqDiff, Nat.reduceAdd, reduceIte, Nat.reduceLeDiff, Nat.reduceBEq, Nat.reduceLT, Nat.reduceSub, Int.reduceLT, Int.reduceLE, Int.reduceEq, Int.reduceToNat, Nat.reduceMul, eq_self, implies_true, forall_const, h1, h8, h104, h105, h106, hm, hi', g2 i hi, RegV.av]
        refine ⟨by omega, CallW.sc (p59n G.nodes (G.reg i).next (by omega)) rfl ⟨trivial, trivial, trivial⟩ fun r hr => ⟨by subst hr; rfl, ?_⟩⟩
        subst hr
        simp -implicitDefEqProofs only [vqa, Nat.reduceEqDiff, Nat.reduceAdd, reduceIte, Nat.reduceLeDiff, Nat.reduceBEq, Nat.reduceLT, Nat.reduceSub, Int.reduceLT, Int.reduceLE, Int.reduceEq, Int.reduceToNat, Nat.reduceMul, eq_self, implies_true, forall_const, h1, h8, h104, h105, h106, hm]
        refine ⟨fun k1 => ?_, fun k1 => ⟨hi, wI (by omega) (by omega), scan_step hs (by unfold badLit; rw [if_pos (Classical.not_not.1 k1)])⟩⟩
        rw [if_pos (by rw [scan_stop hs (c := 2) (by unfold badLit; rw [if_neg k1]) (by decide) _ hi]; decide)]
      · rintro e m ⟨h1, h8, h104, h105, h106, hm, hs⟩
        unfold a40_2
        simp -implicitDefEqProofs only [vqa, Nat.reduceEqDiff, Nat.reduceAdd, reduceIte, Nat.reduceLeDiff, Nat.reduceBEq, Nat.reduceLT, Nat.reduceSub, Int.reduceLT, Int.reduceLE, Int.reduceEq, Int.reduceToNat, Nat.reduceMul, eq_self, implies_true, forall_const, h1, h8, h104, h105, h106, hm]
        rw [hs]
        simp only [ne_eq, not_true, if_false]
        refine vFor G.nk (fun i e m => e 8 = .int .i64 (G.nodes : Nat) ∧ e 117 = .fs G.nk f4 ∧ e 118 = .int .i64 G.nk ∧ e 119 = .int .i64 i ∧ scan (fun i => badLit G.nodes (G.outs i)) i = 0) ?_ ?_ ?_
        · simp -implicitDefEqProofs only [vqa, Nat.reduceEqDiff, Nat.reduceAdd, reduceIte, Nat.reduceLeDiff, Nat.reduceBEq, Nat.reduceLT, Nat.reduceSub, Int.reduceLT, Int.reduceLE, Int.reduceEq, Int.reduceToNat, Nat.reduceMul, eq_self, implies_true, forall_const, h1, h8, hm]
          rfl
        · rintro i e m hi hi' ⟨h8, h117, h118, h119, hs⟩
          unfold a40_3
          simp -implicitDefEqProofs only [vqa, Nat.reduceEqDiff, Nat.reduceAdd, reduceIte, Nat.reduceLeDiff, Nat.reduceBEq, Nat.reduceLT, Nat.reduceSub, Int.reduceLT, Int.reduceLE, Int.reduceEq, Int.reduceToNat, Nat.reduceMul, eq_self, implies_true, forall_const, h8, h117, h118, h119, hi', g4 i hi]
          refine ⟨by omega, CallW.sc (p59n G.nodes (G.outs i) (by omega)) rfl ⟨trivial, trivial, trivial⟩ fun r hr => ⟨by subst hr; rfl, ?_⟩⟩
          subst hr
          simp -implicitDefEqProofs only [vqa, Nat.reduceEqDiff, Nat.reduceAdd, reduceIte, Nat.reduceLeDiff, Nat.reduceBEq, Nat.reduceLT, Nat.reduceSub, Int.reduceLT, Int.reduceLE, Int.reduceEq, Int.reduceToNat, Nat.reduceMul, eq_self, implies_true, forall_const, h8, h117, h118, h119]
          refine ⟨fun k1 => ?_, fun k1 => ⟨hi, wI (by omega) (by omega), scan_step hs (by unfold badLit; rw [if_pos (Classical.not_not.1 k1)])⟩⟩
          rw [scan_stop hs (c := 2) (by unfold badLit; rw [if_neg k1]) (by decide) _ hi]
        · rintro e m ⟨h8, h117, h118, h119, hs⟩
          unfold a40_3
          simp -implicitDefEqProofs only [vqa, Nat.reduceEqDiff, Nat.reduceAdd, reduceIte, Nat.reduceLeDiff, Nat.reduceBEq, Nat.reduceLT, Nat.reduceSub, Int.reduceLT, Int.reduceLE, Int.reduceEq, Int.reduceToNat, Nat.reduceMul, eq_self, implies_true, forall_const, h8, h117, h118, h119]
          rw [hs]
end Go.Ab
