/- Walks: literals replaced. -/
import Derived.Test.YtodncnlnadgkhaaSaGMov0
set_option linter.unusedSimpArgs false
set_option linter.unusedVariables false
namespace Go.Ab
open Go
def a142_0 : AC := (.seq (.ops [⟨(some 28), none, (.v (.bin .lss (.t 27) (.t 26)))⟩]) (.seq (.cond (.t 28) .skip (.exit 0)) (.seq (.block 1 (.seq (.ops [⟨(some 29), none, (.v (.mv (.t 27)))⟩, ⟨(some 9), none, (.v (.mv (.t 29)))⟩]) (.any [⟨(some 30), none, (.v (.fld 2 (.t 8)))⟩, ⟨(some 31), none, (.v (.load 1 false (.t 30)))⟩, ⟨(some 32), none, (.v (.mv (.t 9)))⟩, ⟨(some 33), none, (.v (.mv (.t 7)))⟩, ⟨(some 34), none, (.v (.fld 2 (.t 8)))⟩, ⟨(some 35), none, (.v (.load 1 false (.t 34)))⟩, ⟨(some 36), none, (.v (.mv (.t 9)))⟩, ⟨(some 37), none, (.v (.idx 3 (.t 35) (.t 36)))⟩, ⟨(some 38), none, (.v (.fld 1 (.t 37)))⟩, ⟨(some 39), none, (.v (.load 1 false (.t 38)))⟩, ⟨(some 40), none, (.call (.t 33) [(.t 39)])⟩, ⟨(some 41), none, (.v (.idx 3 (.t 31) (.t 32)))⟩, ⟨(some 42), none, (.v (.fld 1 (.t 41)))⟩, ⟨none, none, (.e (.store 1 (.t 42) (.t 40)))⟩] [[], [0], [], [], [], [4], [], [5, 6], [7], [8], [3, 9], [1, 2, 0, 1, 2, 3, 4, 5, 6, 7, 8, 9, 10], [11, 0, 1, 2, 3, 4, 5, 6, 7, 8, 9, 10], [12, 10, 10, 0, 1, 2, 3, 4, 5, 6, 7, 8, 9, 10]]))) (.ops [⟨(some 43), none, (.v (.bin .add (.t 27) (.c (.int .i64 1))))⟩, ⟨(some 27), none, (.v (.mv (.t 43)))⟩]))))
def a142_1 : AC := (.seq (.ops [⟨(some 48), none, (.v (.bin .lss (.t 47) (.t 46)))⟩]) (.seq (.cond (.t 48) .skip (.exit 2)) (.seq (.block 3 (.seq (.ops [⟨(some 49), none, (.v (.idx 1 (.t 45) (.t 47)))⟩, ⟨(some 50), none, (.v (.load 1 false (.t 49)))⟩, ⟨(some 11), none, (.v (.mv (.t 50)))⟩]) (.any [⟨(some 51), none, (.v (.fld 4 (.t 8)))⟩, ⟨(some 52), none, (.v (.load 1 false (.t 51)))⟩, ⟨(some 53), none, (.v (.mv (.t 7)))⟩, ⟨(some 54), none, (.v (.mv (.t 11)))⟩, ⟨(some 55), none, (.call (.t 53) [(.t 54)])⟩, ⟨(some 56), none, (.e (.lit 56 108 1 1 [(.int .i64 0)] [(0, (.t 55))]))⟩, ⟨(some 57), none, (.e (.app 57 108 1 8 (.t 52) (.t 56)))⟩, ⟨(some 58), none, (.v (.fld 4 (.t 8)))⟩, ⟨none, none, (.e (.store 1 (.t 58) (.t 57)))⟩] [[], [0], [], [], [2, 3], [4], [1, 5, 4], [0, 1, 2, 3, 4, 5, 6], [7, 6, 6, 0, 1, 2, 3, 4, 5, 6]]))) (.ops [⟨(some 59), none, (.v (.bin .add (.t 47) (.c (.int .i64 1))))⟩, ⟨(some 47), none, (.v (.mv (.t 59)))⟩]))))
def a142 : AC := (.seq (.ops [⟨(some 3), none, (.e (.box 3 0 (.t 0)))⟩, ⟨(some 5), none, (.e (.box 5 0 (.t 2)))⟩, ⟨(some 6), none, (.e (.alloc 6 [.cap0, .cap0, .cap0, .cap0, .cap0]))⟩]) (.seq (.ops [⟨(some 12), none, (.v (.mkfn 153 [(.t 5)]))⟩, ⟨(some 7), none, (.v (.mv (.t 12)))⟩]) (.seq (.any [⟨(some 13), none, (.v (.fld 0 (.t 3)))⟩, ⟨(some 14), none, (.v (.load 1 false (.t 13)))⟩, ⟨(some 15), none, (.call (.c (.fn 74 [])) [(.t 14)])⟩, ⟨(some 16), none, (.v (.fld 1 (.t 3)))⟩, ⟨(some 17), none, (.v (.load 1 false (.t 16)))⟩, ⟨(some 18), none, (.call (.c (.fn 74 [])) [(.t 17)])⟩, ⟨(some 19), none, (.v (.fld 2 (.t 3)))⟩, ⟨(some 20), none, (.v (.load 1 false (.t 19)))⟩, ⟨(some 21), none, (.call (.c (.fn 131 [])) [(.t 20)])⟩, ⟨(some 22), none, (.v (.mv (.t 1)))⟩, ⟨(some 23), none, (.v (.build [.cap0, .cap0, .cap0, .cap0, .cap0] [(0, (1, (.t 15))), (1, (1, (.t 18))), (2, (1, (.t 21))), (3, (1, (.t 22)))]))⟩, ⟨(some 8), none, (.e (.alloc 8 [.cap0, .cap0, .cap0, .cap0, .cap0]))⟩, ⟨none, none, (.e (.store 5 (.t 8) (.t 23)))⟩] [[], [0], [1], [], [3], [4, 2], [], [6], [7, 5], [], [2, 5, 8, 9], [], [11, 10, 8, 0, 1, 2, 3, 4, 5, 6, 7, 8, 9, 10, 11]]) (.seq (.seq (.ops [⟨(some 24), none, (.v (.fld 2 (.t 8)))⟩, ⟨(some 25), none, (.v (.load 1 false (.t 24)))⟩, ⟨(some 26), none, (.v (.len (.t 25)))⟩, ⟨(some 27), none, (.v (.mv (.c (.int .i64 0))))⟩]) (.block 0 (.loop a142_0))) (.seq (.seq (.ops [⟨(some 44), none, (.v (.fld 4 (.t 3)))⟩, ⟨(some 45), none, (.v (.load 1 false (.t 44)))⟩, ⟨(some 46), none, (.v (.len (.t 45)))⟩, ⟨(some 47), none, (.v (.mv (.c (.int .i64 0))))⟩]) (.block 2 (.loop a142_1))) (.seq (.ops [⟨(some 60), none, (.v (.load 5 true (.t 8)))⟩, ⟨none, none, (.e (.store 5 (.t 6) (.t 60)))⟩]) .ret))))))
def r142 : List AI := [(.load 5 true (.t 6))]
theorem f142 : Fn PP 142 3 a142 r142 := Fn.of (fn := Go.Proofs.Try.f142) (by kernel_rfl) (by kernel_rfl) (by kernel_rfl)
theorem p142 {G : Gra} {cs : List AV} (hG : GraC cs G) (ok : G.Ok) (gd : G.Good) (n' : Nat) (fa : Nat → AV) (to : Nat → Int) (ft : Nat → AV) (ht : ∀ i, i < G.nodes → ft i = .int .i64 (to i)) :
    Pure PP 142 [.agg cs, .fs n' fa, .fs G.nodes ft] fun r => ∃ a0 a1 a2 a4, r = .agg [.fs G.ni a0, .fs G.no a1, .fs G.nr a2, .fs n' fa, .fs G.nk a4] ∧ (∀ i, i < G.ni → a0 i = .str (G.inn i)) ∧ (∀ i, i < G.no → a1 i = .str (G.out i)) ∧
      (∀ i, i < G.nr → a2 i = .agg [.str (G.reg i).name, .int .i64 (mvL to (G.reg i).next), .bool (G.reg i).init]) ∧ ∀ i, i < G.nk → a4 i = .int .i64 (mvL to (G.outs i)) := by
  obtain ⟨f0, f1, f2, f3, f4, rfl, g0, g1, g2, g3, g4⟩ := hG
  have hni := ok.ni; have hno := ok.no; have hnr := ok.nr; have hna := ok.na; have hnk := ok.nk
  have b1 := gd.ni; have b2 := gd.nr; have b3 := gd.na; have b4 := gd.no; have b5 := gd.nk
  have hbE : G.base = 1 + G.ni + G.nr := rfl
  have hnE : G.nodes = G.base + G.na := rfl
  have c0 : ∀ i, i < G.ni → (f0 i).cells.length = 1 ∧ (f0 i).cells.all AV.isCell = true := fun i hi => by rw [g0 i hi]; exact ⟨rfl, rfl⟩
  have c1 : ∀ i, i < G.no → (f1 i).cells.length = 1 ∧ (f1 i).cells.all AV.isCell = true := fun i hi => by rw [g1 i hi]; exact ⟨rfl, rfl⟩
  have c2 : ∀ i, i < G.nr → (f2 i).cells.length = 3 ∧ (f2 i).cells.all AV.isCell = true := fun i hi => by rw [g2 i hi]; exact ⟨rfl, rfl⟩
  refine Fn.pure fmix f142 ?_
  unfold a142 r142
  simp -implicitDefEqProofs only [vqa, Nat.reduceEqDiff, Nat.reduceAdd, reduceIte, Nat.reduceLeDiff, Nat.reduceBEq, Nat.reduceLT, Nat.reduceSub, Int.reduceLT, Int.reduceLE, Int.reduceEq, Int.reduceToNat, Nat.reduceMul, eq_self, implies_true, forall_const]
  generalize (mem0 3).ver + 1 = V3
  generalize (mem0 5).ver + 1 = V5
  generalize hV6 : (mem0 6).ver + 1 = V6
  refine seq_join (fun e m => ∃ a0 a1 rv V8, e 3 = .ptr 3 V3 0 ∧ e 6 = .ptr 6 V6 0 ∧ e 7 = .fn 153 [.ptr 5 V5 0] ∧ e 8 = .ptr 8 V8 0 ∧ m 3 = .var V3 [.fs G.ni f0, .fs G.no f1, .fs G.nr f2, .fs G.na f3, .fs G.nk f4] ∧ m 5 = .var V5 [.fs G.nodes ft] ∧ m 6 = .var V6 [.cap0, .cap0, .cap0, .cap0, .cap0] ∧ m 8 = .var V8 [.fs G.ni a0, .fs G.no a1, rv, .fs n' fa, .cap0] ∧ (∀ i, i < G.ni → a0 i = .str (G.inn i)) ∧ (∀ i, i < G.no → a1 i = .str (G.out i)) ∧ Acc 21 114 3 G.nr (fun k a => a = (G.reg k).av) rv m) ?_ ?_
  · refine vAnyF [0, 1, 3, 4, 6, 7, 9, 2, 5, 8, 10] 11 12 8 8 [.cap0, .cap0, .cap0, .cap0, .cap0] (oneL 3) (by kernel_rfl) (by kernel_rfl) (by kernel_rfl) (by kernel_rfl) ?_
    simp -implicitDefEqProofs only [vqa, Nat.reduceEqDiff, Nat.reduceAdd, reduceIte, Nat.reduceLeDiff, Nat.reduceBEq, Nat.reduceLT, Nat.reduceSub, Int.reduceLT, Int.reduceLE, Int.reduceEq, Int.reduceToNat, Nat.reduceMul, eq_self, implies_true, forall_const]
    refine CallX.fz (p74z G.ni f0 c0 hni) rfl rfl fun r ⟨a0, hr, h0⟩ => ⟨by subst hr; rfl, ?_⟩
    subst hr
    simp -implicitDefEqProofs only [vqa, Nat.reduceEqDiff, Nat.reduceAdd, reduceIte, Nat.reduceLeDiff, Nat.reduceBEq, Nat.reduceLT, Nat.reduceSub, Int.reduceLT, Int.reduceLE, Int.reduceEq, Int.reduceToNat, Nat.reduceMul, eq_self, implies_true, forall_const]
    refine CallX.fz (p74z G.no f1 c1 hno) rfl rfl fun r ⟨a1, hr, h1⟩ => ⟨by subst hr; rfl, ?_⟩
    subst hr
    simp -implicitDefEqProofs only [vqa, Nat.reduceEqDiff, Nat.reduceAdd, reduceIte, Nat.reduceLeDiff, Nat.reduceBEq, Nat.reduceLT, Nat.reduceSub, Int.reduceLT, Int.reduceLE, Int.reduceEq, Int.reduceToNat, Nat.reduceMul, eq_self, implies_true, forall_const]
    refine CallX.own0 21 (by decide) (p131r G.nr f2 c2 hnr) rfl rfl (fun hz => ?_) (fun e sz n g ⟨e1, e2, e3, hg⟩ => ?_)
    · simp -implicitDefEqProofs only [vqa, Nat.reduceEqDiff, Nat.reduceAdd, reduceIte, Nat.reduceLeDiff, Nat.reduceBEq, Nat.reduceLT, Nat.reduceSub, Int.reduceLT, Int.reduceLE, Int.reduceEq, Int.reduceToNat, Nat.reduceMul, eq_self, implies_true, forall_const]
      exact ⟨a0, a1, _, _, rfl, rfl, fun i hi => by rw [h0 i hi, g0 i hi], fun i hi => by rw [h1 i hi, g1 i hi], .inl ⟨hz, rfl⟩⟩
    · subst e1; subst e2; subst e3
      simp -implicitDefEqProofs only [vqa, Nat.reduceEqDiff, Nat.reduceAdd, reduceIte, Nat.reduceLeDiff, Nat.reduceBEq, Nat.reduceLT, Nat.reduceSub, Int.reduceLT, Int.reduceLE, Int.reduceEq, Int.reduceToNat, Nat.reduceMul, eq_self, implies_true, forall_const]
      exact ⟨a0, a1, _, _, rfl, rfl, fun i hi => by rw [h0 i hi, g0 i hi], fun i hi => by rw [h1 i hi, g1 i hi], .inr ⟨_, g, rfl, rfl, fun i hi => by rw [hg i hi, g2 i hi]⟩⟩
  · rintro e m ⟨a0, a1, rv, V8, h3, h6, h7, h8, m3, m5, m6, m8, k0, k1, hA⟩
    simp -implicitDefEqProofs only [vqa, Nat.reduceEqDiff, Nat.reduceAdd, reduceIte, Nat.reduceLeDiff, Nat.reduceBEq, Nat.reduceLT, Nat.reduceSub, Int.reduceLT, Int.reduceLE, Int.reduceEq, Int.reduceToNat, Nat.reduceMul, eq_self, implies_true, forall_const, h3, h6, h7, h8, m3, m5, m6, m8]
    refine vL_join (fun u => u = .int .i64 (G.nr : Nat)) ?_ fun u hu => ?_
    · rcases hA with ⟨hz, rfl⟩ | ⟨ver, gg, rfl, hm, hgg⟩
      · exact ⟨_, _, rfl, trivial, by rw [hz]; rfl⟩
      · simp only [hm]
        exact ⟨_, _, rfl, trivial, rfl⟩
    subst hu
    simp -implicitDefEqProofs only [vqa, Nat.reduceEqDiff, Nat.reduceAdd, reduceIte, Nat.reduceLeDiff, Nat.reduceBEq, Nat.reduceLT, Nat.reduceSub, Int.reduceLT, Int.reduceLE, Int.reduceEq, Int.reduceToNat, Nat.reduceMul, eq_self, implies_true, forall_const]
    refine vFor G.nr (fun i e m => e 3 = .ptr 3 V3 0 ∧ e 6 = .ptr 6 V6 0 ∧ e 7 = .fn 153 [.ptr 5 V5 0] ∧ e 8 = .ptr 8 V8 0 ∧ m 3 = .var V3 [.fs G.ni f0, .fs G.no f1, .fs G.nr f2, .fs G.na f3, .fs G.nk f4] ∧ m 5 = .var V5 [.fs G.nodes ft] ∧ m 6 = .var V6 [.cap0, .cap0, .cap0, .cap0, .cap0] ∧ m 8 = .var V8 [.fs G.ni a0, .fs G.no a1, rv, .fs n' fa, .cap0] ∧ e 26 = .int .i64 G.nr ∧ e 27 = .int .i64 i ∧ Acc 21 114 3 G.nr (fun k a => a = if k < i then .agg [.str (G.reg k).name, .int .i64 (mvL to (G.reg k).next), .bool (G.reg k).init] else (G.reg k).av) rv m) ?_ ?_ ?_
    · simp -implicitDefEqProofs only [vqa, Nat.reduceEqDiff, Nat.reduceAdd, reduceIte, Nat.reduceLeDiff, Nat.reduceBEq, Nat.reduceLT, Nat.reduceSub, Int.reduceLT, Int.reduceLE, Int.reduceEq, Int.reduceToNat, Nat.reduceMul, eq_self, implies_true, forall_const, h3, h6, h7, h8, m3, m5, m6, m8, if_false]
      exact hA
    · rintro i e m hi hi' ⟨h3, h6, h7, h8, m3, m5, m6, m8, h26, h27, hA⟩
      rcases hA with ⟨hz, hv⟩ | ⟨ver, gg, rfl, hm, hgg⟩
      · omega
      have hgi := hgg i hi
      simp only [Nat.lt_irrefl, if_false, RegV.av] at hgi
      unfold a142_0
      simp -implicitDefEqProofs only [vqa, Nat.reduceEqDiff, Nat.reduceAdd, reduceIte, Nat.reduceLeDiff, Nat.reduceBEq, Nat.reduceLT, Nat.reduceSub, Int.reduceLT, Int.reduceLE, Int.reduceEq, Int.reduceToNat, Nat.reduceMul, eq_self, implies_true, forall_const, h3, h6, h7, h8, m3, m5, m6, m8, h26, h27, hi', hm]
      refine vAny [0, 1, 2, 3, 4, 5, 6, 7, 8, 9, 10, 11, 12, 13] 13 allL (by kernel_rfl) (by kernel_rfl) ?_
      simp -implicitDefEqProofs only [vqa, Nat.reduceEqDiff, Nat.reduceAdd, reduceIte, Nat.reduceLeDiff, Nat.reduceBEq, Nat.reduceLT, Nat.reduceSub, Int.reduceLT, Int.reduceLE, Int.reduceEq, Int.reduceToNat, Nat.reduceMul, eq_self, implies_true, forall_const, h3, h6, h7, h8, m3, m5, m6, m8, h26, h27, hi', hm, hgi]
      refine ⟨by omega, hi, ?_⟩
      refine CallW.sc (p153 G.nodes to ft ht (gd.next i hi) (by omega)) ?_ ?_ fun r hr => ⟨by subst hr; rfl, ?_⟩
      · simp only [rsC, rs2, rs1, rs0, vqa, Nat.reduceEqDiff, Nat.reduceAdd, reduceIte, Nat.reduceLeDiff, Nat.reduceBEq, Nat.reduceLT, Nat.reduceSub, Int.reduceLT, Int.reduceLE, Int.reduceEq, Int.reduceToNat, Nat.reduceMul, eq_self, implies_true, forall_const, m5]
      · simp only [rsC, rs2, rs1, rs0, vqa, Nat.reduceEqDiff, Nat.reduceAdd, reduceIte, Nat.reduceLeDiff, Nat.reduceBEq, Nat.reduceLT, Nat.reduceSub, Int.reduceLT, Int.reduceLE, Int.reduceEq, Int.reduceToNat, Nat.reduceMul, eq_self, implies_true, forall_const, m5]
      subst hr
      simp -implicitDefEqProofs only [vqa, Nat.reduceEqDiff, Nat.reduceAdd, reduceIte, Nat.reduceLeDiff, Nat.reduceBEq, Nat.reduceLT, Nat.reduceSub, Int.reduceLT, Int.reduceLE, Int.reduceEq, Int.reduceToNat, Nat.reduceMul, eq_self, implies_true, forall_const, h3, h6, h7, h8, m3, m5, m6, m8, h26, h27, hi', hm, hgi]
      refine ⟨by omega, hi, hi, wI (by omega) (by omega), .inr ⟨_, _, rfl, rfl, fun k hk => ?_⟩⟩
      show _ = (if k < i + 1 then _ else _)
      by_cases e : k = i
      · subst e
        simp only [decide_true, cond_true]
        rw [if_pos (by omega)]
      · simp only [e, decide_false, cond_false]
        rw [hgg k hk]
        by_cases h : k < i
        · rw [if_pos h, if_pos (by omega)]
        · rw [if_neg h, if_neg (by omega)]
    · rintro e m ⟨h3, h6, h7, h8, m3, m5, m6, m8, h26, h27, hA⟩
      unfold a142_0
      simp -implicitDefEqProofs only [vqa, Nat.reduceEqDiff, Nat.reduceAdd, reduceIte, Nat.reduceLeDiff, Nat.reduceBEq, Nat.reduceLT, Nat.reduceSub, Int.reduceLT, Int.reduceLE, Int.reduceEq, Int.reduceToNat, Nat.reduceMul, eq_self, implies_true, forall_const, h3, h6, h7, h8, m3, m5, m6, m8, h26, h27]
      refine vFor G.nk (fun i e m => e 6 = .ptr 6 V6 0 ∧ e 7 = .fn 153 [.ptr 5 V5 0] ∧ e 8 = .ptr 8 V8 0 ∧ m 5 = .var V5 [.fs G.nodes ft] ∧ m 6 = .var V6 [.cap0, .cap0, .cap0, .cap0, .cap0] ∧ e 45 = .fs G.nk f4 ∧ e 46 = .int .i64 G.nk ∧ e 47 = .int .i64 i ∧ (∃ lv, m 8 = .var V8 [.fs G.ni a0, .fs G.no a1, rv, .fs n' fa, lv] ∧ Acc 57 108 1 i (fun k a => a = .int .i64 (mvL to (G.outs k))) lv m) ∧ Acc 21 114 3 G.nr (fun k a => a = .agg [.str (G.reg k).name, .int .i64 (mvL to (G.reg k).next), .bool (G.reg k).init]) rv m) ?_ ?_ ?_
      · simp -implicitDefEqProofs only [vqa, Nat.reduceEqDiff, Nat.reduceAdd, reduceIte, Nat.reduceLeDiff, Nat.reduceBEq, Nat.reduceLT, Nat.reduceSub, Int.reduceLT, Int.reduceLE, Int.reduceEq, Int.reduceToNat, Nat.reduceMul, eq_self, implies_true, forall_const, h6, h7, h8, m5, m6, m8]
        refine ⟨⟨_, rfl, .none⟩, ?_⟩
        rcases hA with ⟨hz, hv⟩ | ⟨ver, gg, rfl, hm, hgg⟩
        · exact .inl ⟨hz, hv⟩
        · exact .inr ⟨ver, gg, rfl, hm, fun k hk => by have := hgg k hk; simp only [hk, if_true] at this; exact this⟩
      · rintro i e m hi hi' ⟨h6, h7, h8, m5, m6, h45, h46, h47, ⟨lv, m8, hL⟩, hA⟩
        unfold a142_1
        simp -implicitDefEqProofs only [vqa, Nat.reduceEqDiff, Nat.reduceAdd, reduceIte, Nat.reduceLeDiff, Nat.reduceBEq, Nat.reduceLT, Nat.reduceSub, Int.reduceLT, Int.reduceLE, Int.reduceEq, Int.reduceToNat, Nat.reduceMul, eq_self, implies_true, forall_const, h6, h7, h8, m5, m6, m8, h45, h46, h47, hi', g4 i hi]
        refine ⟨by omega, ?_⟩
        refine vAnyS [0, 1, 2, 3, 4, 5] [6, 7, 8] 6 (oneL 8) (by kernel_rfl) (by kernel_rfl) ?_
        simp -implicitDefEqProofs only [vqa, Nat.reduceEqDiff, Nat.reduceAdd, reduceIte, Nat.reduceLeDiff, Nat.reduceBEq, Nat.reduceLT, Nat.reduceSub, Int.reduceLT, Int.reduceLE, Int.reduceEq, Int.reduceToNat, Nat.reduceMul, eq_self, implies_true, forall_const, opsC, opsN, h6, h7, h8, m5, m6, m8, h45, h46, h47]
        refine CallW.sc (p153 G.nodes to ft ht (gd.outs i hi) (by omega)) ?_ ?_ fun r hr => ⟨by subst hr; rfl, ?_⟩
        · simp only [rsC, rs2, rs1, rs0, vqa, Nat.reduceEqDiff, Nat.reduceAdd, reduceIte, Nat.reduceLeDiff, Nat.reduceBEq, Nat.reduceLT, Nat.reduceSub, Int.reduceLT, Int.reduceLE, Int.reduceEq, Int.reduceToNat, Nat.reduceMul, eq_self, implies_true, forall_const, m5]
        · simp only [rsC, rs2, rs1, rs0, vqa, Nat.reduceEqDiff, Nat.reduceAdd, reduceIte, Nat.reduceLeDiff, Nat.reduceBEq, Nat.reduceLT, Nat.reduceSub, Int.reduceLT, Int.reduceLE, Int.reduceEq, Int.reduceToNat, Nat.reduceMul, eq_self, implies_true, forall_const, m5]
        subst hr
        rcases hL with ⟨hz, rfl⟩ | ⟨ver, gg, rfl, hm, hgg⟩
        · simp -implicitDefEqProofs only [vqa, Nat.reduceEqDiff, Nat.reduceAdd, reduceIte, Nat.reduceLeDiff, Nat.reduceBEq, Nat.reduceLT, Nat.reduceSub, Int.reduceLT, Int.reduceLE, Int.reduceEq, Int.reduceToNat, Nat.reduceMul, eq_self, implies_true, forall_const, opsC, opsN, h6, h7, h8, m5, m6, m8, h45, h46, h47]
          subst hz
          exact ⟨hi, wI (by omega) (by omega), ⟨_, rfl, (Acc.first (mem := m) (p := fun k a => a = .int .i64 (mvL to (G.outs k))) rfl).keep rfl⟩, hA.keep (by simp only [set_at]; rfl)⟩
        · simp -implicitDefEqProofs only [vqa, Nat.reduceEqDiff, Nat.reduceAdd, reduceIte, Nat.reduceLeDiff, Nat.reduceBEq, Nat.reduceLT, Nat.reduceSub, Int.reduceLT, Int.reduceLE, Int.reduceEq, Int.reduceToNat, Nat.reduceMul, eq_self, implies_true, forall_const, opsC, opsN, h6, h7, h8, m5, m6, m8, h45, h46, h47, hm]
          exact ⟨⟨by omega, by omega⟩, hi, wI (by omega) (by omega), ⟨_, rfl, (Acc.push (mem := m) (p := fun k a => a = .int .i64 (mvL to (G.outs k))) hgg rfl).keep rfl⟩, hA.keep (by simp only [set_at]; rfl)⟩
      · rintro e m ⟨h6, h7, h8, m5, m6, h45, h46, h47, ⟨lv, m8, hL⟩, hA⟩
        unfold a142_1
        rcases hA with ⟨hz, rfl⟩ | ⟨ver, gg, rfl, hm, hgg⟩ <;> rcases hL with ⟨hz2, rfl⟩ | ⟨ver2, gg2, rfl, hm2, hgg2⟩
        · simp -implicitDefEqProofs only [vqa, Nat.reduceEqDiff, Nat.reduceAdd, reduceIte, Nat.reduceLeDiff, Nat.reduceBEq, Nat.reduceLT, Nat.reduceSub, Int.reduceLT, Int.reduceLE, Int.reduceEq, Int.reduceToNat, Nat.reduceMul, eq_self, implies_true, forall_const, h6, h7, h8, m5, m6, m8, h45, h46, h47]
          exact ⟨_, _, _, _, by rw [hz, hz2], k0, k1, fun i hi => absurd hi (by omega), fun i hi => absurd hi (by omega)⟩
        · simp -implicitDefEqProofs only [vqa, Nat.reduceEqDiff, Nat.reduceAdd, reduceIte, Nat.reduceLeDiff, Nat.reduceBEq, Nat.reduceLT, Nat.reduceSub, Int.reduceLT, Int.reduceLE, Int.reduceEq, Int.reduceToNat, Nat.reduceMul, eq_self, implies_true, forall_const, h6, h7, h8, m5, m6, m8, h45, h46, h47, hm2]
          exact ⟨_, _, _, _, by rw [hz], k0, k1, fun i hi => absurd hi (by omega), hgg2⟩
        · simp -implicitDefEqProofs only [vqa, Nat.reduceEqDiff, Nat.reduceAdd, reduceIte, Nat.reduceLeDiff, Nat.reduceBEq, Nat.reduceLT, Nat.reduceSub, Int.reduceLT, Int.reduceLE, Int.reduceEq, Int.reduceToNat, Nat.reduceMul, eq_self, implies_true, forall_const, h6, h7, h8, m5, m6, m8, h45, h46, h47, hm]
          exact ⟨_, _, _, _, by rw [hz2], k0, k1, hgg, fun i hi => absurd hi (by omega)⟩
        · simp -implicitDefEqProofs only [vqa, Nat.reduceEqDiff, Nat.reduceAdd, reduceIte, Nat.reduceLeDiff, Nat.reduceBEq, Nat.reduceLT, Nat.reduceSub, Int.reduceLT, Int.reduceLE, Int.reduceEq, Int.reduceToNat, Nat.reduceMul, eq_self, implies_true, forall_const, h6, h7, h8, m5, m6, m8, h45, h46, h47, hm, hm2]
          exact ⟨_, _, _, _, rfl, k0, k1, hgg, hgg2⟩
end Go.Ab
