/- Walks: add. -/
import Derived.Test.YtodncnlnadgkhabSaJoin1
import Derived.Test.YtodncnlnadgkhabFwT
set_option linter.unusedSimpArgs false
set_option linter.unusedVariables false
namespace Go.Ab
open Go
def b98_0 (b : Nat) : AC := (.seq (.ops [⟨(some 18), none, (.v (.bin .lss (.t 17) (.t 16)))⟩]) (.seq (.cond (.t 18) .skip (.exit 0)) (.seq (.block 1 (.seq (.ops [⟨(some 19), none, (.v (.idx 3 (.t 15) (.t 17)))⟩, ⟨(some 20), none, (.v (.load 3 true (.t 19)))⟩, ⟨(some 8), none, (.e (.alloc (b + 8) [(.str ⟨#[]⟩), (.int .i64 0), (.bool false)]))⟩, ⟨none, none, (.e (.store 3 (.t 8) (.t 20)))⟩]) (.seq (.ops [⟨(some 21), none, (.v (.mv (.t 6)))⟩, ⟨(some 22), none, (.v (.fld 1 (.t 8)))⟩, ⟨(some 23), none, (.v (.load 1 false (.t 22)))⟩, ⟨(some 24), none, (.call (.t 21) [(.t 23)])⟩, ⟨(some 25), none, (.v (.fld 1 (.t 8)))⟩, ⟨none, none, (.e (.store 1 (.t 25) (.t 24)))⟩]) (.any [⟨(some 26), none, (.v (.mv (.t 0)))⟩, ⟨(some 27), none, (.v (.mv (.t 0)))⟩, ⟨(some 28), none, (.v (.nilck (.t 27)))⟩, ⟨(some 29), none, (.v (.fld 2 (.t 28)))⟩, ⟨(some 30), none, (.v (.load 1 false (.t 29)))⟩, ⟨(some 31), none, (.v (.load 3 true (.t 8)))⟩, ⟨(some 32), none, (.e (.lit (b + 32) 49 3 1 [(.str ⟨#[]⟩), (.int .i64 0), (.bool false)] [(0, (.t 31))]))⟩, ⟨(some 33), none, (.e (.app (b + 33) 49 3 32 (.t 30) (.t 32)))⟩, ⟨(some 34), none, (.v (.nilck (.t 26)))⟩, ⟨(some 35), none, (.v (.fld 2 (.t 34)))⟩, ⟨none, none, (.e (.store 1 (.t 35) (.t 33)))⟩] [[], [], [1], [2], [3], [], [5], [4, 6], [0, 0, 1, 2, 3, 4, 5, 6, 7], [8, 0, 1, 2, 3, 4, 5, 6, 7], [9, 7, 7, 0, 1, 2, 3, 4, 5, 6, 7]])))) (.ops [⟨(some 36), none, (.v (.bin .add (.t 17) (.c (.int .i64 1))))⟩, ⟨(some 17), none, (.v (.mv (.t 36)))⟩]))))
def b98_1 (b : Nat) : AC := (.seq (.ops [⟨(some 41), none, (.v (.bin .lss (.t 40) (.t 39)))⟩]) (.seq (.cond (.t 41) .skip (.exit 2)) (.seq (.block 3 (.seq (.ops [⟨(some 42), none, (.v (.idx 2 (.t 38) (.t 40)))⟩, ⟨(some 43), none, (.v (.load 2 true (.t 42)))⟩, ⟨(some 10), none, (.e (.alloc (b + 10) [(.int .i64 0), (.int .i64 0)]))⟩, ⟨none, none, (.e (.store 2 (.t 10) (.t 43)))⟩]) (.any [⟨(some 44), none, (.v (.mv (.t 0)))⟩, ⟨(some 45), none, (.v (.mv (.t 0)))⟩, ⟨(some 46), none, (.v (.nilck (.t 45)))⟩, ⟨(some 47), none, (.v (.fld 3 (.t 46)))⟩, ⟨(some 48), none, (.v (.load 1 false (.t 47)))⟩, ⟨(some 49), none, (.v (.mv (.t 6)))⟩, ⟨(some 50), none, (.v (.fld 0 (.t 10)))⟩, ⟨(some 51), none, (.v (.load 1 false (.t 50)))⟩, ⟨(some 52), none, (.call (.t 49) [(.t 51)])⟩, ⟨(some 53), none, (.v (.mv (.t 6)))⟩, ⟨(some 54), none, (.v (.fld 1 (.t 10)))⟩, ⟨(some 55), none, (.v (.load 1 false (.t 54)))⟩, ⟨(some 56), none, (.call (.t 53) [(.t 55)])⟩, ⟨(some 57), none, (.v (.build [(.int .i64 0), (.int .i64 0)] [(0, (1, (.t 52))), (1, (1, (.t 56)))]))⟩, ⟨(some 58), none, (.e (.lit (b + 58) 110 2 1 [(.int .i64 0), (.int .i64 0)] [(0, (.t 57))]))⟩, ⟨(some 59), none, (.e (.app (b + 59) 110 2 16 (.t 48) (.t 58)))⟩, ⟨(some 60), none, (.v (.nilck (.t 44)))⟩, ⟨(some 61), none, (.v (.fld 3 (.t 60)))⟩, ⟨none, none, (.e (.store 1 (.t 61) (.t 59)))⟩] [[], [], [1], [2], [3], [], [], [6], [5, 7], [], [], [10], [9, 11, 8], [8, 12], [13], [4, 14, 12], [0, 0, 1, 2, 3, 4, 5, 6, 7, 8, 9, 10, 11, 12, 13, 14, 15], [16, 0, 1, 2, 3, 4, 5, 6, 7, 8, 9, 10, 11, 12, 13, 14, 15], [17, 15, 15, 0, 1, 2, 3, 4, 5, 6, 7, 8, 9, 10, 11, 12, 13, 14, 15]]))) (.ops [⟨(some 62), none, (.v (.bin .add (.t 40) (.c (.int .i64 1))))⟩, ⟨(some 40), none, (.v (.mv (.t 62)))⟩]))))
def b98_2 (b : Nat) : AC := (.seq (.ops [⟨(some 77), none, (.v (.bin .lss (.t 76) (.t 75)))⟩]) (.seq (.cond (.t 77) .skip (.exit 4)) (.seq (.block 5 (.seq (.ops [⟨(some 78), none, (.v (.idx 1 (.t 74) (.t 76)))⟩, ⟨(some 79), none, (.v (.load 1 false (.t 78)))⟩, ⟨(some 12), none, (.v (.mv (.t 79)))⟩]) (.any [⟨(some 80), none, (.v (.mv (.t 0)))⟩, ⟨(some 81), none, (.v (.mv (.t 0)))⟩, ⟨(some 82), none, (.v (.nilck (.t 81)))⟩, ⟨(some 83), none, (.v (.fld 4 (.t 82)))⟩, ⟨(some 84), none, (.v (.load 1 false (.t 83)))⟩, ⟨(some 85), none, (.v (.mv (.t 6)))⟩, ⟨(some 86), none, (.v (.mv (.t 12)))⟩, ⟨(some 87), none, (.call (.t 85) [(.t 86)])⟩, ⟨(some 88), none, (.e (.lit (b + 88) 28 1 1 [(.int .i64 0)] [(0, (.t 87))]))⟩, ⟨(some 89), none, (.e (.app (b + 89) 28 1 8 (.t 84) (.t 88)))⟩, ⟨(some 90), none, (.v (.nilck (.t 80)))⟩, ⟨(some 91), none, (.v (.fld 4 (.t 90)))⟩, ⟨none, none, (.e (.store 1 (.t 91) (.t 89)))⟩] [[], [], [1], [2], [3], [], [], [5, 6], [7], [4, 8, 7], [0, 0, 1, 2, 3, 4, 5, 6, 7, 8, 9], [10, 0, 1, 2, 3, 4, 5, 6, 7, 8, 9], [11, 9, 9, 0, 1, 2, 3, 4, 5, 6, 7, 8, 9]]))) (.ops [⟨(some 92), none, (.v (.bin .add (.t 76) (.c (.int .i64 1))))⟩, ⟨(some 76), none, (.v (.mv (.t 92)))⟩]))))
def b98 (b : Nat) : AC := (.seq (.ops [⟨(some 4), none, (.e (.box (b + 4) 0 (.t 1)))⟩, ⟨(some 5), none, (.e (.box (b + 5) 0 (.t 2)))⟩]) (.seq (.ops [⟨(some 13), none, (.v (.mkfn 109 [(.t 5)]))⟩, ⟨(some 6), none, (.v (.mv (.t 13)))⟩]) (.seq (.seq (.ops [⟨(some 14), none, (.v (.fld 2 (.t 4)))⟩, ⟨(some 15), none, (.v (.load 1 false (.t 14)))⟩, ⟨(some 16), none, (.v (.len (.t 15)))⟩, ⟨(some 17), none, (.v (.mv (.c (.int .i64 0))))⟩]) (.block 0 (.loop (b98_0 b)))) (.seq (.seq (.ops [⟨(some 37), none, (.v (.fld 3 (.t 4)))⟩, ⟨(some 38), none, (.v (.load 1 false (.t 37)))⟩, ⟨(some 39), none, (.v (.len (.t 38)))⟩, ⟨(some 40), none, (.v (.mv (.c (.int .i64 0))))⟩]) (.block 2 (.loop (b98_1 b)))) (.seq (.any [⟨(some 63), none, (.v (.mv (.t 0)))⟩, ⟨(some 64), none, (.v (.mv (.t 0)))⟩, ⟨(some 65), none, (.v (.nilck (.t 64)))⟩, ⟨(some 66), none, (.v (.fld 1 (.t 65)))⟩, ⟨(some 67), none, (.v (.load 1 false (.t 66)))⟩, ⟨(some 68), none, (.v (.fld 1 (.t 4)))⟩, ⟨(some 69), none, (.v (.load 1 false (.t 68)))⟩, ⟨(some 70), none, (.e (.app (b + 70) 9 1 16 (.t 67) (.t 69)))⟩, ⟨(some 71), none, (.v (.nilck (.t 63)))⟩, ⟨(some 72), none, (.v (.fld 1 (.t 71)))⟩, ⟨none, none, (.e (.store 1 (.t 72) (.t 70)))⟩] [[], [], [1], [2], [3], [], [5], [4, 6], [0, 0, 1, 2, 3, 4, 5, 6, 7], [8, 0, 1, 2, 3, 4, 5, 6, 7], [9, 7, 7, 0, 1, 2, 3, 4, 5, 6, 7]]) (.seq (.ops [⟨(some 73), none, (.v (.fld 4 (.t 4)))⟩, ⟨(some 74), none, (.v (.load 1 false (.t 73)))⟩, ⟨(some 75), none, (.v (.len (.t 74)))⟩, ⟨(some 76), none, (.v (.mv (.c (.int .i64 0))))⟩]) (.block 4 (.loop (b98_2 b)))))))))
def q98 : List AI := []
theorem g98 (b : Nat) : Fn PP 98 3 (b98 b) q98 := Fn.ofB b (fn := Go.Proofs.Try.f98) (by kernel_rfl) (by kernel_rfl) (by kernel_rfl)
/-- Where a function of nodes may be called: the caller's objects J are as they were, and so is the first field of the graph that is made. -/
def JI (V : Nat) (x0 : AV) (J : Nat → Prop) (m0 : Mem) (m : Mem) : Prop := (∃ y1 y2 y3 y4, m 8 = .var V [x0, y1, y2, y3, y4]) ∧ ∀ j, J j → m j = m0 j
/-- How far the graph has come that is made. -/
def AdS (S1 S2 S3 S4 : List Nat) (V : Nat) (x0 : AV) (p1 p2 p3 p4 : Nat → AV → Prop) (n1 n2 n3 n4 : Nat) (m : Mem) : Prop :=
  ∃ y1 y2 y3 y4, m 8 = .var V [x0, y1, y2, y3, y4] ∧ AccP S1 9 1 n1 p1 y1 m ∧ AccP S2 49 3 n2 p2 y2 m ∧ AccP S3 110 2 n3 p3 y3 m ∧ AccP S4 28 1 n4 p4 y4 m
theorem AccP.to2 {S : List Nat} {e sz n n' : Nat} {p : Nat → AV → Prop} {v : AV} {m : Mem} (h : AccP S e sz n p v m) (hn : n = n') : AccP S e sz n' p v m := hn ▸ h
def JF (m0 m : Mem) : Prop := ∀ j, j < 1000 → j ≠ 8 → m j = m0 j
theorem JF.put {m0 m : Mem} {k : Nat} {o : AO} (h : JF m0 m) (hk : 1000 ≤ k ∨ k = 8) : JF m0 (Mem.set k o m) := fun j hj hne => by rw [set_ne (by omega)]; exact h j hj hne
theorem ji_of {V : Nat} {x0 y1 y2 y3 y4 : AV} {J : Nat → Prop} {m0 m : Mem} (hJ : ∀ j, J j → j < 1000 ∧ j ≠ 8) (h8 : m 8 = .var V [x0, y1, y2, y3, y4]) (hF : JF m0 m) : JI V x0 J m0 m := ⟨⟨_, _, _, _, h8⟩, fun j hj => hF j (hJ j hj).1 (hJ j hj).2⟩

set_option maxHeartbeats 8000000 in
theorem p98a {mem : Mem} {V : Nat} {x0 : AV} {G : Gra} {cs : List AV} (hG : GraC cs G) (ok : G.Ok) (gd : G.Good) {v : AV} {T : Nat → Nat} {J : Nat → Prop} (hv : ToC v T G.nodes (JI V x0 J mem)) (hJ : ∀ j, J j → j < 1000 ∧ j ≠ 8) (hT : ∀ i, i < G.nodes → T i ≤ 1000000)
    {p1 p2 p3 p4 : Nat → AV → Prop} {n1 n2 n3 n4 : Nat} (hA : AdS [1070] [1033] [1059] [1089] V x0 p1 p2 p3 p4 n1 n2 n3 n4 mem) (b1 : n1 ≤ 1048576) (b2 : n2 ≤ 1048576) (b3 : n3 ≤ 1048576) (b4 : n4 ≤ 1048576)
    (q1 : ∀ i, i < G.no → p1 (n1 + i) (.str (G.out i))) (q2 : ∀ i, i < G.nr → p2 (n2 + i) (.agg [.str (G.reg i).name, .int .i64 (jL T (G.reg i).next), .bool (G.reg i).init])) (q3 : ∀ i, i < G.na → p3 (n3 + i) (.agg [.int .i64 (jL T (G.A i)), .int .i64 (jL T (G.B i))])) (q4 : ∀ i, i < G.nk → p4 (n4 + i) (.int .i64 (jL T (G.outs i)))) :
    CallW PP 98 [.ptr 8 V 0, .agg cs, v] mem fun r m => r = .tup [] ∧ AdS [1070] [1033] [1059] [1089] V x0 p1 p2 p3 p4 (n1 + G.no) (n2 + G.nr) (n3 + G.na) (n4 + G.nk) m ∧ JF mem m := by
  obtain ⟨f0, f1, f2, f3, f4, rfl, g0, g1, g2, g3, g4⟩ := hG
  have c1 := gd.ni; have c2 := gd.nr; have c3 := gd.na; have c4 := gd.no; have c5 := gd.nk
  have hnn : G.nodes ≤ 100000 := by unfold Gra.nodes Gra.base; omega
  have up : ∀ {i : Nat} {l : Int}, i < G.na → litOk (G.base + i) l → litOk G.nodes l := fun {i l} hi h => ⟨h.1, by have := h.2; have : G.nodes = G.base + G.na := rfl; omega⟩
  have hv0 := hv
  obtain ⟨vk, vc, rfl, _⟩ := hv0
  refine Fn.call fmix (g98 1000) ?_
  unfold b98 q98
  simp -implicitDefEqProofs only [vqa, Nat.reduceEqDiff, Nat.reduceAdd, reduceIte, Nat.reduceLeDiff, Nat.reduceBEq, Nat.reduceLT, Nat.reduceSub, Int.reduceLT, Int.reduceLE, Int.reduceEq, Int.reduceToNat, Nat.reduceMul, eq_self, implies_true, forall_const]
  generalize (mem 1004).ver + 1 = V4
  generalize (mem 1005).ver + 1 = V5
  have A0 : AdS [1070] [1033] [1059] [1089] V x0 p1 p2 p3 p4 n1 n2 n3 n4 (Mem.set 1005 (.var V5 [.fn vk vc]) (Mem.set 1004 (.var V4 [.fs G.ni f0, .fs G.no f1, .fs G.nr f2, .fs G.na f3, .fs G.nk f4]) mem)) := by
    obtain ⟨y1, y2, y3, y4, m8, A1, A2, A3, A4⟩ := hA
    exact ⟨y1, y2, y3, y4, by rw [set_ne (by decide), set_ne (by decide)]; exact m8, (A1.put (by simp)).put (by simp), (A2.put (by simp)).put (by simp), (A3.put (by simp)).put (by simp), (A4.put (by simp)).put (by simp)⟩
  have F0 : JF mem (Mem.set 1005 (.var V5 [.fn vk vc]) (Mem.set 1004 (.var V4 [.fs G.ni f0, .fs G.no f1, .fs G.nr f2, .fs G.na f3, .fs G.nk f4]) mem)) := fun j hj _ => by rw [set_ne (by omega), set_ne (by omega)]
  refine vFor G.nr (fun i e m => e 0 = .ptr 8 V 0 ∧ e 4 = .ptr 1004 V4 0 ∧ m 1004 = .var V4 [.fs G.ni f0, .fs G.no f1, .fs G.nr f2, .fs G.na f3, .fs G.nk f4] ∧ e 6 = .fn 109 [.ptr 1005 V5 0] ∧ m 1005 = .var V5 [.fn vk vc] ∧ JF mem m ∧ e 15 = .fs G.nr f2 ∧ e 16 = .int .i64 G.nr ∧ e 17 = .int .i64 i ∧ AdS [1070] [1033] [1059] [1089] V x0 p1 p2 p3 p4 n1 (n2 + i) n3 n4 m) ?_ ?_ ?_
  · simp -implicitDefEqProofs only [vqa, Nat.reduceEqDiff, Nat.reduceAdd, reduceIte, Nat.reduceLeDiff, Nat.reduceBEq, Nat.reduceLT, Nat.reduceSub, Int.reduceLT, Int.reduceLE, Int.reduceEq, Int.reduceToNat, Nat.reduceMul, eq_self, implies_true, forall_const]
    exact ⟨F0, A0⟩
  · rintro i e m hi hi' ⟨h0, h4, m4, h6, m5, hF, h15, h16, h17, y1, y2, y3, y4, m8, A1, A2, A3, A4⟩
    have hfi := g2 i hi
    unfold RegV.av at hfi
    unfold b98_0
    simp -implicitDefEqProofs only [vqa, Nat.reduceEqDiff, Nat.reduceAdd, reduceIte, Nat.reduceLeDiff, Nat.reduceBEq, Nat.reduceLT, Nat.reduceSub, Int.reduceLT, Int.reduceLE, Int.reduceEq, Int.reduceToNat, Nat.reduceMul, eq_self, implies_true, forall_const, h0, h4, m4, h6, m5, m8, h15, h16, h17, hi', hfi]
    generalize (m 1008).ver + 1 = V8
    refine ⟨by omega, ?_⟩
    refine CallW.mono (p109 hv ?ji ?m5 (G.reg i).next (gd.next i hi) hnn hT) fun r m' ⟨hr, hm'⟩ => ?_
    case ji => exact ji_of hJ (by rw [set_ne (by decide)]; exact m8) (by repeat (first | exact hF | refine JF.put ?_ (by exact .inl (by decide))))
    case m5 => rw [set_ne (by decide)]; exact m5
    subst hr; subst hm'
    simp -implicitDefEqProofs only [vqa, Nat.reduceEqDiff, Nat.reduceAdd, reduceIte, Nat.reduceLeDiff, Nat.reduceBEq, Nat.reduceLT, Nat.reduceSub, Int.reduceLT, Int.reduceLE, Int.reduceEq, Int.reduceToNat, Nat.reduceMul, eq_self, implies_true, forall_const, h0, h4, m4, h6, m5, m8, h15, h16, h17]
    obtain ⟨hz, rfl⟩ | ⟨s', sv, gg, hs', rfl, hm, hg, hgn⟩ := A2
    · skip
      refine vAny [0, 1, 2, 3, 4, 5, 6, 7, 8, 9, 10] 10 (twoL 8 1008) (by kernel_rfl) (by kernel_rfl) ?_
      simp -implicitDefEqProofs only [vqa, Nat.reduceEqDiff, Nat.reduceAdd, reduceIte, Nat.reduceLeDiff, Nat.reduceBEq, Nat.reduceLT, Nat.reduceSub, Int.reduceLT, Int.reduceLE, Int.reduceEq, Int.reduceToNat, Nat.reduceMul, eq_self, implies_true, forall_const, restr_two1, restr_two2, agree_two, h0, h4, m4, h6, m5, m8, h15, h16, h17]
      have hq := q2 i hi
      rw [hz] at hq
      obtain rfl : i = 0 := by omega
      refine ⟨hi, ?_, wI (by omega) (by omega), ?_⟩
      · repeat (first | exact hF | refine JF.put ?_ (by first | exact .inl (by decide) | exact .inr rfl))
      · refine ⟨_, _, _, _, set_same _ _ _, ?_, ?_, ?_, ?_⟩
        · repeat (first | exact A1 | refine AccP.put ?_ (by simp))
        · refine AccP.to2 (AccP.put (AccP.first (by simp) hq) (by simp)) (by omega)
        · repeat (first | exact A3 | refine AccP.put ?_ (by simp))
        · repeat (first | exact A4 | refine AccP.put ?_ (by simp))
    · obtain rfl : s' = 1033 := by simpa using hs'
      refine vAny [0, 1, 2, 3, 4, 5, 6, 7, 8, 9, 10] 10 (twoL 8 1008) (by kernel_rfl) (by kernel_rfl) ?_
      simp -implicitDefEqProofs only [vqa, Nat.reduceEqDiff, Nat.reduceAdd, reduceIte, Nat.reduceLeDiff, Nat.reduceBEq, Nat.reduceLT, Nat.reduceSub, Int.reduceLT, Int.reduceLE, Int.reduceEq, Int.reduceToNat, Nat.reduceMul, eq_self, implies_true, forall_const, restr_two1, restr_two2, agree_two, h0, h4, m4, h6, m5, m8, h15, h16, h17, hm]
      refine ⟨⟨by omega, by omega⟩, hi, ?_, wI (by omega) (by omega), ?_⟩
      · repeat (first | exact hF | refine JF.put ?_ (by first | exact .inl (by decide) | exact .inr rfl))
      · refine ⟨_, _, _, _, set_same _ _ _, ?_, ?_, ?_, ?_⟩
        · repeat (first | exact A1 | refine AccP.put ?_ (by simp))
        · refine AccP.to2 (AccP.put (AccP.push (by simp) hg (q2 i hi)) (by simp)) (by omega)
        · repeat (first | exact A3 | refine AccP.put ?_ (by simp))
        · repeat (first | exact A4 | refine AccP.put ?_ (by simp))
  rintro e m ⟨h0, h4, m4, h6, m5, hF, h15, h16, h17, y1, y2, y3, y4, m8, A1, A2, A3, A4⟩
  unfold b98_0
  simp -implicitDefEqProofs only [vqa, Nat.reduceEqDiff, Nat.reduceAdd, reduceIte, Nat.reduceLeDiff, Nat.reduceBEq, Nat.reduceLT, Nat.reduceSub, Int.reduceLT, Int.reduceLE, Int.reduceEq, Int.reduceToNat, Nat.reduceMul, eq_self, implies_true, forall_const, h0, h4, m4, h6, m5, m8, h15, h16, h17]
  clear A0 F0
  refine vFor G.na (fun i e m => e 0 = .ptr 8 V 0 ∧ e 4 = .ptr 1004 V4 0 ∧ m 1004 = .var V4 [.fs G.ni f0, .fs G.no f1, .fs G.nr f2, .fs G.na f3, .fs G.nk f4] ∧ e 6 = .fn 109 [.ptr 1005 V5 0] ∧ m 1005 = .var V5 [.fn vk vc] ∧ JF mem m ∧ e 38 = .fs G.na f3 ∧ e 39 = .int .i64 G.na ∧ e 40 = .int .i64 i ∧ AdS [1070] [1033] [1059] [1089] V x0 p1 p2 p3 p4 n1 (n2 + G.nr) (n3 + i) n4 m) ?_ ?_ ?_
  · simp -implicitDefEqProofs only [vqa, Nat.reduceEqDiff, Nat.reduceAdd, reduceIte, Nat.reduceLeDiff, Nat.reduceBEq, Nat.reduceLT, Nat.reduceSub, Int.reduceLT, Int.reduceLE, Int.reduceEq, Int.reduceToNat, Nat.reduceMul, eq_self, implies_true, forall_const, h0, h4, m4, h6, m5, m8]
    exact ⟨hF, _, _, _, _, m8, A1, A2, A3, A4⟩
  · clear h0 h4 m4 h6 m5 hF h15 h16 h17 m8 A1 A2 A3 A4 y1 y2 y3 y4 e m
    rintro i e m hi hi' ⟨h0, h4, m4, h6, m5, hF, h38, h39, h40, y1, y2, y3, y4, m8, A1, A2, A3, A4⟩
    have hfi := g3 i hi
    unfold b98_1
    simp -implicitDefEqProofs only [vqa, Nat.reduceEqDiff, Nat.reduceAdd, reduceIte, Nat.reduceLeDiff, Nat.reduceBEq, Nat.reduceLT, Nat.reduceSub, Int.reduceLT, Int.reduceLE, Int.reduceEq, Int.reduceToNat, Nat.reduceMul, eq_self, implies_true, forall_const, h0, h4, m4, h6, m5, m8, h38, h39, h40, hi', hfi]
    generalize (m 1010).ver + 1 = V10
    refine ⟨by omega, ?_⟩
    obtain ⟨hz, rfl⟩ | ⟨s', sv, gg, hs', rfl, hm, hg, hgn⟩ := A3
    · skip
      refine vAny [0, 1, 2, 3, 4, 5, 6, 7, 9, 10, 11, 8, 12, 13, 14, 15, 16, 17, 18] 18 (twoL 8 1010) (by kernel_rfl) (by kernel_rfl) ?_
      simp -implicitDefEqProofs only [vqa, Nat.reduceEqDiff, Nat.reduceAdd, reduceIte, Nat.reduceLeDiff, Nat.reduceBEq, Nat.reduceLT, Nat.reduceSub, Int.reduceLT, Int.reduceLE, Int.reduceEq, Int.reduceToNat, Nat.reduceMul, eq_self, implies_true, forall_const, restr_two1, restr_two2, agree_two, h0, h4, m4, h6, m5, m8, h38, h39, h40]
      refine CallW.mono (p109 hv ?ji ?m5 (G.A i) (up hi (gd.A i hi)) hnn hT) fun r m' ⟨hr, hm'⟩ => ?_
      case ji => exact ji_of hJ (by rw [set_ne (by decide)]; exact m8) (by repeat (first | exact hF | refine JF.put ?_ (by exact .inl (by decide))))
      case m5 => rw [set_ne (by decide)]; exact m5
      subst hr; subst hm'
      simp -implicitDefEqProofs only [vqa, Nat.reduceEqDiff, Nat.reduceAdd, reduceIte, Nat.reduceLeDiff, Nat.reduceBEq, Nat.reduceLT, Nat.reduceSub, Int.reduceLT, Int.reduceLE, Int.reduceEq, Int.reduceToNat, Nat.reduceMul, eq_self, implies_true, forall_const, restr_two1, restr_two2, agree_two, h0, h4, m4, h6, m5, m8, h38, h39, h40]
      refine CallW.mono (p109 hv ?ji ?m5 (G.B i) (up hi (gd.B i hi)) hnn hT) fun r m' ⟨hr, hm'⟩ => ?_
      case ji => exact ji_of hJ (by rw [set_ne (by decide)]; exact m8) (by repeat (first | exact hF | refine JF.put ?_ (by exact .inl (by decide))))
      case m5 => rw [set_ne (by decide)]; exact m5
      subst hr; subst hm'
      simp -implicitDefEqProofs only [vqa, Nat.reduceEqDiff, Nat.reduceAdd, reduceIte, Nat.reduceLeDiff, Nat.reduceBEq, Nat.reduceLT, Nat.reduceSub, Int.reduceLT, Int.reduceLE, Int.reduceEq, Int.reduceToNat, Nat.reduceMul, eq_self, implies_true, forall_const, restr_two1, restr_two2, agree_two, h0, h4, m4, h6, m5, m8, h38, h39, h40]
      have hq := q3 i hi
      rw [hz] at hq
      obtain rfl : i = 0 := by omega
      refine ⟨hi, ?_, wI (by omega) (by omega), ?_⟩
      · repeat (first | exact hF | refine JF.put ?_ (by first | exact .inl (by decide) | exact .inr rfl))
      · refine ⟨_, _, _, _, set_same _ _ _, ?_, ?_, ?_, ?_⟩
        · repeat (first | exact A1 | refine AccP.put ?_ (by simp))
        · repeat (first | exact A2 | refine AccP.put ?_ (by simp))
        · refine AccP.to2 (AccP.put (AccP.first (by simp) hq) (by simp)) (by omega)
        · repeat (first | exact A4 | refine AccP.put ?_ (by simp))
    · obtain rfl : s' = 1059 := by simpa using hs'
      refine vAny [0, 1, 2, 3, 4, 5, 6, 7, 9, 10, 11, 8, 12, 13, 14, 15, 16, 17, 18] 18 (twoL 8 1010) (by kernel_rfl) (by kernel_rfl) ?_
      simp -implicitDefEqProofs only [vqa, Nat.reduceEqDiff, Nat.reduceAdd, reduceIte, Nat.reduceLeDiff, Nat.reduceBEq, Nat.reduceLT, Nat.reduceSub, Int.reduceLT, Int.reduceLE, Int.reduceEq, Int.reduceToNat, Nat.reduceMul, eq_self, implies_true, forall_const, restr_two1, restr_two2, agree_two, h0, h4, m4, h6, m5, m8, h38, h39, h40, hm]
      refine CallW.mono (p109 hv ?ji ?m5 (G.A i) (up hi (gd.A i hi)) hnn hT) fun r m' ⟨hr, hm'⟩ => ?_
      case ji => exact ji_of hJ (by rw [set_ne (by decide)]; exact m8) (by repeat (first | exact hF | refine JF.put ?_ (by exact .inl (by decide))))
      case m5 => rw [set_ne (by decide)]; exact m5
      subst hr; subst hm'
      simp -implicitDefEqProofs only [vqa, Nat.reduceEqDiff, Nat.reduceAdd, reduceIte, Nat.reduceLeDiff, Nat.reduceBEq, Nat.reduceLT, Nat.reduceSub, Int.reduceLT, Int.reduceLE, Int.reduceEq, Int.reduceToNat, Nat.reduceMul, eq_self, implies_true, forall_const, restr_two1, restr_two2, agree_two, h0, h4, m4, h6, m5, m8, h38, h39, h40, hm]
      refine CallW.mono (p109 hv ?ji ?m5 (G.B i) (up hi (gd.B i hi)) hnn hT) fun r m' ⟨hr, hm'⟩ => ?_
      case ji => exact ji_of hJ (by rw [set_ne (by decide)]; exact m8) (by repeat (first | exact hF | refine JF.put ?_ (by exact .inl (by decide))))
      case m5 => rw [set_ne (by decide)]; exact m5
      subst hr; subst hm'
      simp -implicitDefEqProofs only [vqa, Nat.reduceEqDiff, Nat.reduceAdd, reduceIte, Nat.reduceLeDiff, Nat.reduceBEq, Nat.reduceLT, Nat.reduceSub, Int.reduceLT, Int.reduceLE, Int.reduceEq, Int.reduceToNat, Nat.reduceMul, eq_self, implies_true, forall_const, restr_two1, restr_two2, agree_two, h0, h4, m4, h6, m5, m8, h38, h39, h40, hm]
      refine ⟨⟨by omega, by omega⟩, hi, ?_, wI (by omega) (by omega), ?_⟩
      · repeat (first | exact hF | refine JF.put ?_ (by first | exact .inl (by decide) | exact .inr rfl))
      · refine ⟨_, _, _, _, set_same _ _ _, ?_, ?_, ?_, ?_⟩
        · repeat (first | exact A1 | refine AccP.put ?_ (by simp))
        · repeat (first | exact A2 | refine AccP.put ?_ (by simp))
        · refine AccP.to2 (AccP.put (AccP.push (by simp) hg (q3 i hi)) (by simp)) (by omega)
        · repeat (first | exact A4 | refine AccP.put ?_ (by simp))
  clear h0 h4 m4 h6 m5 hF h15 h16 h17 m8 A1 A2 A3 A4 y1 y2 y3 y4 e m
  rintro e m ⟨h0, h4, m4, h6, m5, hF, h38, h39, h40, y1, y2, y3, y4, m8, A1, A2, A3, A4⟩
  unfold b98_1
  simp -implicitDefEqProofs only [vqa, Nat.reduceEqDiff, Nat.reduceAdd, reduceIte, Nat.reduceLeDiff, Nat.reduceBEq, Nat.reduceLT, Nat.reduceSub, Int.reduceLT, Int.reduceLE, Int.reduceEq, Int.reduceToNat, Nat.reduceMul, eq_self, implies_true, forall_const, h0, h4, m4, h6, m5, m8, h38, h39, h40]
  refine seq_join (fun e m => e 0 = .ptr 8 V 0 ∧ e 4 = .ptr 1004 V4 0 ∧ m 1004 = .var V4 [.fs G.ni f0, .fs G.no f1, .fs G.nr f2, .fs G.na f3, .fs G.nk f4] ∧ e 6 = .fn 109 [.ptr 1005 V5 0] ∧ m 1005 = .var V5 [.fn vk vc] ∧ JF mem m ∧ AdS [1070] [1033] [1059] [1089] V x0 p1 p2 p3 p4 (n1 + G.no) (n2 + G.nr) (n3 + G.na) n4 m) ?_ ?_
  · skip
    obtain ⟨hz, rfl⟩ | ⟨s', sv, gg, hs'0, rfl, hm, hg, hgn⟩ := A1
    · skip
      refine vAny [0, 1, 2, 3, 4, 5, 6, 7, 8, 9, 10] 10 (twoL 8 1004) (by kernel_rfl) (by kernel_rfl) ?_
      simp -implicitDefEqProofs only [vqa, Nat.reduceEqDiff, Nat.reduceAdd, reduceIte, Nat.reduceLeDiff, Nat.reduceBEq, Nat.reduceLT, Nat.reduceSub, Int.reduceLT, Int.reduceLE, Int.reduceEq, Int.reduceToNat, Nat.reduceMul, eq_self, implies_true, forall_const, restr_two1, restr_two2, agree_two, h0, h4, m4, h6, m5, m8]
      rcases Nat.eq_zero_or_pos G.no with hno | hno
      · simp only [hno, vqa, Nat.reduceEqDiff, Nat.reduceAdd, reduceIte, Nat.reduceLeDiff, Nat.reduceBEq, Nat.reduceLT, Nat.reduceSub, Int.reduceLT, Int.reduceLE, Int.reduceEq, Int.reduceToNat, Nat.reduceMul, eq_self, implies_true, forall_const, restr_two1, restr_two2, agree_two, h0, h4, m4, h6, m5, m8]
        refine ⟨?_, ?_⟩
        · repeat (first | exact hF | refine JF.put ?_ (by first | exact .inl (by decide) | exact .inr rfl))
        · refine ⟨_, _, _, _, set_same _ _ _, .inl ⟨by omega, rfl⟩, ?_, ?_, ?_⟩
          · repeat (first | exact A2 | refine AccP.put ?_ (by simp))
          · repeat (first | exact A3 | refine AccP.put ?_ (by simp))
          · repeat (first | exact A4 | refine AccP.put ?_ (by simp))
      · obtain ⟨no', hno'⟩ : ∃ k, G.no = k + 1 := ⟨G.no - 1, by omega⟩
        simp only [hno', vqa, Nat.reduceEqDiff, Nat.reduceAdd, reduceIte, Nat.reduceLeDiff, Nat.reduceBEq, Nat.reduceLT, Nat.reduceSub, Int.reduceLT, Int.reduceLE, Int.reduceEq, Int.reduceToNat, Nat.reduceMul, eq_self, implies_true, forall_const, restr_two1, restr_two2, agree_two, h0, h4, m4, h6, m5, m8]
        refine ⟨⟨fun i hi => by rw [g1 i (by omega)]; exact ⟨rfl, rfl⟩, by omega, by omega⟩, ?_, ?_⟩
        · repeat (first | exact hF | refine JF.put ?_ (by first | exact .inl (by decide) | exact .inr rfl))
        · refine ⟨_, _, _, _, set_same _ _ _, AccP.put (.inr ⟨1070, _, f1, by simp, by rw [hz, Nat.zero_add], by rw [hz, Nat.zero_add]; exact set_same _ _ _, fun i hi => ?_, by omega⟩) (by simp), ?_, ?_, ?_⟩
          · have hq := q1 i (by omega)
            rw [hz, Nat.zero_add] at hq
            rw [g1 i (by omega)]; exact hq
          · repeat (first | exact A2 | refine AccP.put ?_ (by simp))
          · repeat (first | exact A3 | refine AccP.put ?_ (by simp))
          · repeat (first | exact A4 | refine AccP.put ?_ (by simp))
    · obtain rfl : s' = 1070 := by simpa using hs'0
      refine vAny [0, 1, 2, 3, 4, 5, 6, 7, 8, 9, 10] 10 (twoL 8 1004) (by kernel_rfl) (by kernel_rfl) ?_
      simp -implicitDefEqProofs only [vqa, Nat.reduceEqDiff, Nat.reduceAdd, reduceIte, Nat.reduceLeDiff, Nat.reduceBEq, Nat.reduceLT, Nat.reduceSub, Int.reduceLT, Int.reduceLE, Int.reduceEq, Int.reduceToNat, Nat.reduceMul, eq_self, implies_true, forall_const, restr_two1, restr_two2, agree_two, h0, h4, m4, h6, m5, m8, hm]
      refine ⟨⟨fun i hi => by rw [g1 i hi]; exact ⟨rfl, rfl⟩, by omega, by omega⟩, ?_, ?_⟩
      · repeat (first | exact hF | refine JF.put ?_ (by first | exact .inl (by decide) | exact .inr rfl))
      · refine ⟨_, _, _, _, set_same _ _ _, AccP.put (.inr ⟨_, _, _, (by simp), rfl, set_same _ _ _, fun i hi => ?_, by omega⟩) (by simp), ?_, ?_, ?_⟩
        · by_cases k : i < n1
          · simp only [k, decide_true, cond_true]; exact hg i k
          · simp only [k, decide_false, cond_false]
            have hq := q1 (i - n1) (by omega)
            rw [show n1 + (i - n1) = i by omega] at hq
            rw [g1 _ (by omega)]; exact hq
        · repeat (first | exact A2 | refine AccP.put ?_ (by simp))
        · repeat (first | exact A3 | refine AccP.put ?_ (by simp))
        · repeat (first | exact A4 | refine AccP.put ?_ (by simp))
  clear h0 h4 m4 h6 m5 hF h38 h39 h40 m8 A1 A2 A3 A4 y1 y2 y3 y4 e m
  rintro e m ⟨h0, h4, m4, h6, m5, hF, hA0⟩
  simp -implicitDefEqProofs only [vqa, Nat.reduceEqDiff, Nat.reduceAdd, reduceIte, Nat.reduceLeDiff, Nat.reduceBEq, Nat.reduceLT, Nat.reduceSub, Int.reduceLT, Int.reduceLE, Int.reduceEq, Int.reduceToNat, Nat.reduceMul, eq_self, implies_true, forall_const, h0, h4, m4, h6, m5]
  refine vFor G.nk (fun i e m => e 0 = .ptr 8 V 0 ∧ e 4 = .ptr 1004 V4 0 ∧ m 1004 = .var V4 [.fs G.ni f0, .fs G.no f1, .fs G.nr f2, .fs G.na f3, .fs G.nk f4] ∧ e 6 = .fn 109 [.ptr 1005 V5 0] ∧ m 1005 = .var V5 [.fn vk vc] ∧ JF mem m ∧ e 74 = .fs G.nk f4 ∧ e 75 = .int .i64 G.nk ∧ e 76 = .int .i64 i ∧ AdS [1070] [1033] [1059] [1089] V x0 p1 p2 p3 p4 (n1 + G.no) (n2 + G.nr) (n3 + G.na) (n4 + i) m) ?_ ?_ ?_
  · simp -implicitDefEqProofs only [vqa, Nat.reduceEqDiff, Nat.reduceAdd, reduceIte, Nat.reduceLeDiff, Nat.reduceBEq, Nat.reduceLT, Nat.reduceSub, Int.reduceLT, Int.reduceLE, Int.reduceEq, Int.reduceToNat, Nat.reduceMul, eq_self, implies_true, forall_const, h0, h4, m4, h6, m5]
    exact ⟨hF, hA0⟩
  · clear h0 h4 m4 h6 m5 hF hA0 e m
    rintro i e m hi hi' ⟨h0, h4, m4, h6, m5, hF, h74, h75, h76, y1, y2, y3, y4, m8, A1, A2, A3, A4⟩
    have hfi := g4 i hi
    unfold b98_2
    simp -implicitDefEqProofs only [vqa, Nat.reduceEqDiff, Nat.reduceAdd, reduceIte, Nat.reduceLeDiff, Nat.reduceBEq, Nat.reduceLT, Nat.reduceSub, Int.reduceLT, Int.reduceLE, Int.reduceEq, Int.reduceToNat, Nat.reduceMul, eq_self, implies_true, forall_const, h0, h4, m4, h6, m5, m8, h74, h75, h76, hi', hfi]
    refine ⟨by omega, ?_⟩
    obtain ⟨hz, rfl⟩ | ⟨s', sv, gg, hs', rfl, hm, hg, hgn⟩ := A4
    · skip
      refine vAny [0, 1, 2, 3, 4, 5, 6, 7, 8, 9, 10, 11, 12] 12 (oneL 8) (by kernel_rfl) (by kernel_rfl) ?_
      simp -implicitDefEqProofs only [vqa, Nat.reduceEqDiff, Nat.reduceAdd, reduceIte, Nat.reduceLeDiff, Nat.reduceBEq, Nat.reduceLT, Nat.reduceSub, Int.reduceLT, Int.reduceLE, Int.reduceEq, Int.reduceToNat, Nat.reduceMul, eq_self, implies_true, forall_const, h0, h4, m4, h6, m5, m8, h74, h75, h76]
      refine CallW.mono (p109 hv ?ji ?m5 (G.outs i) (gd.outs i hi) hnn hT) fun r m' ⟨hr, hm'⟩ => ?_
      case ji => exact ji_of hJ m8 hF
      case m5 => exact m5
      subst hr; subst hm'
      simp -implicitDefEqProofs only [vqa, Nat.reduceEqDiff, Nat.reduceAdd, reduceIte, Nat.reduceLeDiff, Nat.reduceBEq, Nat.reduceLT, Nat.reduceSub, Int.reduceLT, Int.reduceLE, Int.reduceEq, Int.reduceToNat, Nat.reduceMul, eq_self, implies_true, forall_const, h0, h4, m4, h6, m5, m8, h74, h75, h76]
      have hq := q4 i hi
      rw [hz] at hq
      obtain rfl : i = 0 := by omega
      refine ⟨hi, ?_, wI (by omega) (by omega), ?_⟩
      · repeat (first | exact hF | refine JF.put ?_ (by first | exact .inl (by decide) | exact .inr rfl))
      · refine ⟨_, _, _, _, set_same _ _ _, ?_, ?_, ?_, ?_⟩
        · repeat (first | exact A1 | refine AccP.put ?_ (by simp))
        · repeat (first | exact A2 | refine AccP.put ?_ (by simp))
        · repeat (first | exact A3 | refine AccP.put ?_ (by simp))
        · refine AccP.to2 (AccP.put (AccP.first (by simp) hq) (by simp)) (by omega)
    · obtain rfl : s' = 1089 := by simpa using hs'
      refine vAny [0, 1, 2, 3, 4, 5, 6, 7, 8, 9, 10, 11, 12] 12 (oneL 8) (by kernel_rfl) (by kernel_rfl) ?_
      simp -implicitDefEqProofs only [vqa, Nat.reduceEqDiff, Nat.reduceAdd, reduceIte, Nat.reduceLeDiff, Nat.reduceBEq, Nat.reduceLT, Nat.reduceSub, Int.reduceLT, Int.reduceLE, Int.reduceEq, Int.reduceToNat, Nat.reduceMul, eq_self, implies_true, forall_const, h0, h4, m4, h6, m5, m8, h74, h75, h76, hm]
      refine CallW.mono (p109 hv ?ji ?m5 (G.outs i) (gd.outs i hi) hnn hT) fun r m' ⟨hr, hm'⟩ => ?_
      case ji => exact ji_of hJ m8 hF
      case m5 => exact m5
      subst hr; subst hm'
      simp -implicitDefEqProofs only [vqa, Nat.reduceEqDiff, Nat.reduceAdd, reduceIte, Nat.reduceLeDiff, Nat.reduceBEq, Nat.reduceLT, Nat.reduceSub, Int.reduceLT, Int.reduceLE, Int.reduceEq, Int.reduceToNat, Nat.reduceMul, eq_self, implies_true, forall_const, h0, h4, m4, h6, m5, m8, h74, h75, h76, hm]
      refine ⟨⟨by omega, by omega⟩, hi, ?_, wI (by omega) (by omega), ?_⟩
      · repeat (first | exact hF | refine JF.put ?_ (by first | exact .inl (by decide) | exact .inr rfl))
      · refine ⟨_, _, _, _, set_same _ _ _, ?_, ?_, ?_, ?_⟩
        · repeat (first | exact A1 | refine AccP.put ?_ (by simp))
        · repeat (first | exact A2 | refine AccP.put ?_ (by simp))
        · repeat (first | exact A3 | refine AccP.put ?_ (by simp))
        · refine AccP.to2 (AccP.put (AccP.push (by simp) hg (q4 i hi)) (by simp)) (by omega)
  clear h0 h4 m4 h6 m5 hF hA0 e m
  rintro e m ⟨h0, h4, m4, h6, m5, hF, h74, h75, h76, hA1⟩
  unfold b98_2
  simp -implicitDefEqProofs only [vqa, Nat.reduceEqDiff, Nat.reduceAdd, reduceIte, Nat.reduceLeDiff, Nat.reduceBEq, Nat.reduceLT, Nat.reduceSub, Int.reduceLT, Int.reduceLE, Int.reduceEq, Int.reduceToNat, Nat.reduceMul, eq_self, implies_true, forall_const, h0, h4, m4, h6, m5, h74, h75, h76]
  exact ⟨hA1, hF⟩

set_option maxHeartbeats 8000000 in
theorem p98b {mem : Mem} {V : Nat} {x0 : AV} {G : Gra} {cs : List AV} (hG : GraC cs G) (ok : G.Ok) (gd : G.Good) {v : AV} {T : Nat → Nat} {J : Nat → Prop} (hv : ToC v T G.nodes (JI V x0 J mem)) (hJ : ∀ j, J j → j < 1000 ∧ j ≠ 8) (hT : ∀ i, i < G.nodes → T i ≤ 1000000)
    {p1 p2 p3 p4 : Nat → AV → Prop} {n1 n2 n3 n4 : Nat} (hA : AdS [1070, 2070] [1033, 2033] [1059, 2059] [1089, 2089] V x0 p1 p2 p3 p4 n1 n2 n3 n4 mem) (b1 : n1 ≤ 1048576) (b2 : n2 ≤ 1048576) (b3 : n3 ≤ 1048576) (b4 : n4 ≤ 1048576)
    (q1 : ∀ i, i < G.no → p1 (n1 + i) (.str (G.out i))) (q2 : ∀ i, i < G.nr → p2 (n2 + i) (.agg [.str (G.reg i).name, .int .i64 (jL T (G.reg i).next), .bool (G.reg i).init])) (q3 : ∀ i, i < G.na → p3 (n3 + i) (.agg [.int .i64 (jL T (G.A i)), .int .i64 (jL T (G.B i))])) (q4 : ∀ i, i < G.nk → p4 (n4 + i) (.int .i64 (jL T (G.outs i)))) :
    CallW PP 98 [.ptr 8 V 0, .agg cs, v] mem fun r m => r = .tup [] ∧ AdS [1070, 2070] [1033, 2033] [1059, 2059] [1089, 2089] V x0 p1 p2 p3 p4 (n1 + G.no) (n2 + G.nr) (n3 + G.na) (n4 + G.nk) m ∧ JF mem m := by
  obtain ⟨f0, f1, f2, f3, f4, rfl, g0, g1, g2, g3, g4⟩ := hG
  have c1 := gd.ni; have c2 := gd.nr; have c3 := gd.na; have c4 := gd.no; have c5 := gd.nk
  have hnn : G.nodes ≤ 100000 := by unfold Gra.nodes Gra.base; omega
  have up : ∀ {i : Nat} {l : Int}, i < G.na → litOk (G.base + i) l → litOk G.nodes l := fun {i l} hi h => ⟨h.1, by have := h.2; have : G.nodes = G.base + G.na := rfl; omega⟩
  have hv0 := hv
  obtain ⟨vk, vc, rfl, _⟩ := hv0
  refine Fn.call fmix (g98 2000) ?_
  unfold b98 q98
  simp -implicitDefEqProofs only [vqa, Nat.reduceEqDiff, Nat.reduceAdd, reduceIte, Nat.reduceLeDiff, Nat.reduceBEq, Nat.reduceLT, Nat.reduceSub, Int.reduceLT, Int.reduceLE, Int.reduceEq, Int.reduceToNat, Nat.reduceMul, eq_self, implies_true, forall_const]
  generalize (mem 2004).ver + 1 = V4
  generalize (mem 2005).ver + 1 = V5
  have A0 : AdS [1070, 2070] [1033, 2033] [1059, 2059] [1089, 2089] V x0 p1 p2 p3 p4 n1 n2 n3 n4 (Mem.set 2005 (.var V5 [.fn vk vc]) (Mem.set 2004 (.var V4 [.fs G.ni f0, .fs G.no f1, .fs G.nr f2, .fs G.na f3, .fs G.nk f4]) mem)) := by
    obtain ⟨y1, y2, y3, y4, m8, A1, A2, A3, A4⟩ := hA
    exact ⟨y1, y2, y3, y4, by rw [set_ne (by decide), set_ne (by decide)]; exact m8, (A1.put (by simp)).put (by simp), (A2.put (by simp)).put (by simp), (A3.put (by simp)).put (by simp), (A4.put (by simp)).put (by simp)⟩
  have F0 : JF mem (Mem.set 2005 (.var V5 [.fn vk vc]) (Mem.set 2004 (.var V4 [.fs G.ni f0, .fs G.no f1, .fs G.nr f2, .fs G.na f3, .fs G.nk f4]) mem)) := fun j hj _ => by rw [set_ne (by omega), set_ne (by omega)]
  refine vFor G.nr (fun i e m => e 0 = .ptr 8 V 0 ∧ e 4 = .ptr 2004 V4 0 ∧ m 2004 = .var V4 [.fs G.ni f0, .fs G.no f1, .fs G.nr f2, .fs G.na f3, .fs G.nk f4] ∧ e 6 = .fn 109 [.ptr 2005 V5 0] ∧ m 2005 = .var V5 [.fn vk vc] ∧ JF mem m ∧ e 15 = .fs G.nr f2 ∧ e 16 = .int .i64 G.nr ∧ e 17 = .int .i64 i ∧ AdS [1070, 2070] [1033, 2033] [1059, 2059] [1089, 2089] V x0 p1 p2 p3 p4 n1 (n2 + i) n3 n4 m) ?_ ?_ ?_
  · simp -implicitDefEqProofs only [vqa, Nat.reduceEqDiff, Nat.reduceAdd, reduceIte, Nat.reduceLeDiff, Nat.reduceBEq, Nat.reduceLT, Nat.reduceSub, Int.reduceLT, Int.reduceLE, Int.reduceEq, Int.reduceToNat, Nat.reduceMul, eq_self, implies_true, forall_const]
    exact ⟨F0, A0⟩
  · rintro i e m hi hi' ⟨h0, h4, m4, h6, m5, hF, h15, h16, h17, y1, y2, y3, y4, m8, A1, A2, A3, A4⟩
    have hfi := g2 i hi
    unfold RegV.av at hfi
    unfold b98_0
    simp -implicitDefEqProofs only [vqa, Nat.reduceEqDiff, Nat.reduceAdd, reduceIte, Nat.reduceLeDiff, Nat.reduceBEq, Nat.reduceLT, Nat.reduceSub, Int.reduceLT, Int.reduceLE, Int.reduceEq, Int.reduceToNat, Nat.reduceMul, eq_self, implies_true, forall_const, h0, h4, m4, h6, m5, m8, h15, h16, h17, hi', hfi]
    generalize (m 2008).ver + 1 = V8
    refine ⟨by omega, ?_⟩
    refine CallW.mono (p109 hv ?ji ?m5 (G.reg i).next (gd.next i hi) hnn hT) fun r m' ⟨hr, hm'⟩ => ?_
    case ji => exact ji_of hJ (by rw [set_ne (by decide)]; exact m8) (by repeat (first | exact hF | refine JF.put ?_ (by exact .inl (by decide))))
    case m5 => rw [set_ne (by decide)]; exact m5
    subst hr; subst hm'
    simp -implicitDefEqProofs only [vqa, Nat.reduceEqDiff, Nat.reduceAdd, reduceIte, Nat.reduceLeDiff, Nat.reduceBEq, Nat.reduceLT, Nat.reduceSub, Int.reduceLT, Int.reduceLE, Int.reduceEq, Int.reduceToNat, Nat.reduceMul, eq_self, implies_true, forall_const, h0, h4, m4, h6, m5, m8, h15, h16, h17]
    obtain ⟨hz, rfl⟩ | ⟨s', sv, gg, hs', rfl, hm, hg, hgn⟩ := A2
    · skip
      refine vAny [0, 1, 2, 3, 4, 5, 6, 7, 8, 9, 10] 10 (twoL 8 2008) (by kernel_rfl) (by kernel_rfl) ?_
      simp -implicitDefEqProofs only [vqa, Nat.reduceEqDiff, Nat.reduceAdd, reduceIte, Nat.reduceLeDiff, Nat.reduceBEq, Nat.reduceLT, Nat.reduceSub, Int.reduceLT, Int.reduceLE, Int.reduceEq, Int.reduceToNat, Nat.reduceMul, eq_self, implies_true, forall_const, restr_two1, restr_two2, agree_two, h0, h4, m4, h6, m5, m8, h15, h16, h17]
      have hq := q2 i hi
      rw [hz] at hq
      obtain rfl : i = 0 := by omega
      refine ⟨hi, ?_, wI (by omega) (by omega), ?_⟩
      · repeat (first | exact hF | refine JF.put ?_ (by first | exact .inl (by decide) | exact .inr rfl))
      · refine ⟨_, _, _, _, set_same _ _ _, ?_, ?_, ?_, ?_⟩
        · repeat (first | exact A1 | refine AccP.put ?_ (by simp))
        · refine AccP.to2 (AccP.put (AccP.first (by simp) hq) (by simp)) (by omega)
        · repeat (first | exact A3 | refine AccP.put ?_ (by simp))
        · repeat (first | exact A4 | refine AccP.put ?_ (by simp))
    · have hs'' : s' = 1033 ∨ s' = 2033 := by simpa using hs'
      obtain rfl | rfl := hs''
      · skip
        refine vAny [0, 1, 2, 3, 4, 5, 6, 7, 8, 9, 10] 10 (twoL 8 2008) (by kernel_rfl) (by kernel_rfl) ?_
        simp -implicitDefEqProofs only [vqa, Nat.reduceEqDiff, Nat.reduceAdd, reduceIte, Nat.reduceLeDiff, Nat.reduceBEq, Nat.reduceLT, Nat.reduceSub, Int.reduceLT, Int.reduceLE, Int.reduceEq, Int.reduceToNat, Nat.reduceMul, eq_self, implies_true, forall_const, restr_two1, restr_two2, agree_two, h0, h4, m4, h6, m5, m8, h15, h16, h17, hm]
        refine ⟨⟨by omega, by omega⟩, hi, ?_, wI (by omega) (by omega), ?_⟩
        · repeat (first | exact hF | refine JF.put ?_ (by first | exact .inl (by decide) | exact .inr rfl))
        · refine ⟨_, _, _, _, set_same _ _ _, ?_, ?_, ?_, ?_⟩
          · repeat (first | exact A1 | refine AccP.put ?_ (by simp))
          · refine AccP.to2 (AccP.put (AccP.push (by simp) hg (q2 i hi)) (by simp)) (by omega)
          · repeat (first | exact A3 | refine AccP.put ?_ (by simp))
          · repeat (first | exact A4 | refine AccP.put ?_ (by simp))
      · skip
        refine vAny [0, 1, 2, 3, 4, 5, 6, 7, 8, 9, 10] 10 (twoL 8 2008) (by kernel_rfl) (by kernel_rfl) ?_
        simp -implicitDefEqProofs only [vqa, Nat.reduceEqDiff, Nat.reduceAdd, reduceIte, Nat.reduceLeDiff, Nat.reduceBEq, Nat.reduceLT, Nat.reduceSub, Int.reduceLT, Int.reduceLE, Int.reduceEq, Int.reduceToNat, Nat.reduceMul, eq_self, implies_true, forall_const, restr_two1, restr_two2, agree_two, h0, h4, m4, h6, m5, m8, h15, h16, h17, hm]
        refine ⟨⟨by omega, by omega⟩, hi, ?_, wI (by omega) (by omega), ?_⟩
        · repeat (first | exact hF | refine JF.put ?_ (by first | exact .inl (by decide) | exact .inr rfl))
        · refine ⟨_, _, _, _, set_same _ _ _, ?_, ?_, ?_, ?_⟩
          · repeat (first | exact A1 | refine AccP.put ?_ (by simp))
          · refine AccP.to2 (AccP.put (AccP.push (by simp) hg (q2 i hi)) (by simp)) (by omega)
          · repeat (first | exact A3 | refine AccP.put ?_ (by simp))
          · repeat (first | exact A4 | refine AccP.put ?_ (by simp))
  rintro e m ⟨h0, h4, m4, h6, m5, hF, h15, h16, h17, y1, y2, y3, y4, m8, A1, A2, A3, A4⟩
  unfold b98_0
  simp -implicitDefEqProofs only [vqa, Nat.reduceEqDiff, Nat.reduceAdd, reduceIte, Nat.reduceLeDiff, Nat.reduceBEq, Nat.reduceLT, Nat.reduceSub, Int.reduceLT, Int.reduceLE, Int.reduceEq, Int.reduceToNat, Nat.reduceMul, eq_self, implies_true, forall_const, h0, h4, m4, h6, m5, m8, h15, h16, h17]
  clear A0 F0
  refine vFor G.na (fun i e m => e 0 = .ptr 8 V 0 ∧ e 4 = .ptr 2004 V4 0 ∧ m 2004 = .var V4 [.fs G.ni f0, .fs G.no f1, .fs G.nr f2, .fs G.na f3, .fs G.nk f4] ∧ e 6 = .fn 109 [.ptr 2005 V5 0] ∧ m 2005 = .var V5 [.fn vk vc] ∧ JF mem m ∧ e 38 = .fs G.na f3 ∧ e 39 = .int .i64 G.na ∧ e 40 = .int .i64 i ∧ AdS [1070, 2070] [1033, 2033] [1059, 2059] [1089, 2089] V x0 p1 p2 p3 p4 n1 (n2 + G.nr) (n3 + i) n4 m) ?_ ?_ ?_
  · simp -implicitDefEqProofs only [vqa, Nat.reduceEqDiff, Nat.reduceAdd, reduceIte, Nat.reduceLeDiff, Nat.reduceBEq, Nat.reduceLT, Nat.reduceSub, Int.reduceLT, Int.reduceLE, Int.reduceEq, Int.reduceToNat, Nat.reduceMul, eq_self, implies_true, forall_const, h0, h4, m4, h6, m5, m8]
    exact ⟨hF, _, _, _, _, m8, A1, A2, A3, A4⟩
  · clear h0 h4 m4 h6 m5 hF h15 h16 h17 m8 A1 A2 A3 A4 y1 y2 y3 y4 e m
    rintro i e m hi hi' ⟨h0, h4, m4, h6, m5, hF, h38, h39, h40, y1, y2, y3, y4, m8, A1, A2, A3, A4⟩
    have hfi := g3 i hi
    unfold b98_1
    simp -implicitDefEqProofs only [vqa, Nat.reduceEqDiff, Nat.reduceAdd, reduceIte, Nat.reduceLeDiff, Nat.reduceBEq, Nat.reduceLT, Nat.reduceSub, Int.reduceLT, Int.reduceLE, Int.reduceEq, Int.reduceToNat, Nat.reduceMul, eq_self, implies_true, forall_const, h0, h4, m4, h6, m5, m8, h38, h39, h40, hi', hfi]
    generalize (m 2010).ver + 1 = V10
    refine ⟨by omega, ?_⟩
    obtain ⟨hz, rfl⟩ | ⟨s', sv, gg, hs', rfl, hm, hg, hgn⟩ := A3
    · skip
      refine vAny [0, 1, 2, 3, 4, 5, 6, 7, 9, 10, 11, 8, 12, 13, 14, 15, 16, 17, 18] 18 (twoL 8 2010) (by kernel_rfl) (by kernel_rfl) ?_
      simp -implicitDefEqProofs only [vqa, Nat.reduceEqDiff, Nat.reduceAdd, reduceIte, Nat.reduceLeDiff, Nat.reduceBEq, Nat.reduceLT, Nat.reduceSub, Int.reduceLT, Int.reduceLE, Int.reduceEq, Int.reduceToNat, Nat.reduceMul, eq_self, implies_true, forall_const, restr_two1, restr_two2, agree_two, h0, h4, m4, h6, m5, m8, h38, h39, h40]
      refine CallW.mono (p109 hv ?ji ?m5 (G.A i) (up hi (gd.A i hi)) hnn hT) fun r m' ⟨hr, hm'⟩ => ?_
      case ji => exact ji_of hJ (by rw [set_ne (by decide)]; exact m8) (by repeat (first | exact hF | refine JF.put ?_ (by exact .inl (by decide))))
      case m5 => rw [set_ne (by decide)]; exact m5
      subst hr; subst hm'
      simp -implicitDefEqProofs only [vqa, Nat.reduceEqDiff, Nat.reduceAdd, reduceIte, Nat.reduceLeDiff, Nat.reduceBEq, Nat.reduceLT, Nat.reduceSub, Int.reduceLT, Int.reduceLE, Int.reduceEq, Int.reduceToNat, Nat.reduceMul, eq_self, implies_true, forall_const, restr_two1, restr_two2, agree_two, h0, h4, m4, h6, m5, m8, h38, h39, h40]
      refine CallW.mono (p109 hv ?ji ?m5 (G.B i) (up hi (gd.B i hi)) hnn hT) fun r m' ⟨hr, hm'⟩ => ?_
      case ji => exact ji_of hJ (by rw [set_ne (by decide)]; exact m8) (by repeat (first | exact hF | refine JF.put ?_ (by exact .inl (by decide))))
      case m5 => rw [set_ne (by decide)]; exact m5
      subst hr; subst hm'
      simp -implicitDefEqProofs only [vqa, Nat.reduceEqDiff, Nat.reduceAdd, reduceIte, Nat.reduceLeDiff, Nat.reduceBEq, Nat.reduceLT, Nat.reduceSub, Int.reduceLT, Int.reduceLE, Int.reduceEq, Int.reduceToNat, Nat.reduceMul, eq_self, implies_true, forall_const, restr_two1, restr_two2, agree_two, h0, h4, m4, h6, m5, m8, h38, h39, h40]
      have hq := q3 i hi
      rw [hz] at hq
      obtain rfl : i = 0 := by omega
      refine ⟨hi, ?_, wI (by omega) (by omega), ?_⟩
      · repeat (first | exact hF | refine JF.put ?_ (by first | exact .inl (by decide) | exact .inr rfl))
      · refine ⟨_, _, _, _, set_same _ _ _, ?_, ?_, ?_, ?_⟩
        · repeat (first | exact A1 | refine AccP.put ?_ (by simp))
        · repeat (first | exact A2 | refine AccP.put ?_ (by simp))
        · refine AccP.to2 (AccP.put (AccP.first (by simp) hq) (by simp)) (by omega)
        · repeat (first | exact A4 | refine AccP.put ?_ (by simp))
    · have hs'' : s' = 1059 ∨ s' = 2059 := by simpa using hs'
      obtain rfl | rfl := hs''
      · skip
        refine vAny [0, 1, 2, 3, 4, 5, 6, 7, 9, 10, 11, 8, 12, 13, 14, 15, 16, 17, 18] 18 (twoL 8 2010) (by kernel_rfl) (by kernel_rfl) ?_
        simp -implicitDefEqProofs only [vqa, Nat.reduceEqDiff, Nat.reduceAdd, reduceIte, Nat.reduceLeDiff, Nat.reduceBEq, Nat.reduceLT, Nat.reduceSub, Int.reduceLT, Int.reduceLE, Int.reduceEq, Int.reduceToNat, Nat.reduceMul, eq_self, implies_true, forall_const, restr_two1, restr_two2, agree_two, h0, h4, m4, h6, m5, m8, h38, h39, h40, hm]
        refine CallW.mono (p109 hv ?ji ?m5 (G.A i) (up hi (gd.A i hi)) hnn hT) fun r m' ⟨hr, hm'⟩ => ?_
        case ji => exact ji_of hJ (by rw [set_ne (by decide)]; exact m8) (by repeat (first | exact hF | refine JF.put ?_ (by exact .inl (by decide))))
        case m5 => rw [set_ne (by decide)]; exact m5
        subst hr; subst hm'
        simp -implicitDefEqProofs only [vqa, Nat.reduceEqDiff, Nat.reduceAdd, reduceIte, Nat.reduceLeDiff, Nat.reduceBEq, Nat.reduceLT, Nat.reduceSub, Int.reduceLT, Int.reduceLE, Int.reduceEq, Int.reduceToNat, Nat.reduceMul, eq_self, implies_true, forall_const, restr_two1, restr_two2, agree_two, h0, h4, m4, h6, m5, m8, h38, h39, h40, hm]
        refine CallW.mono (p109 hv ?ji ?m5 (G.B i) (up hi (gd.B i hi)) hnn hT) fun r m' ⟨hr, hm'⟩ => ?_
        case ji => exact ji_of hJ (by rw [set_ne (by decide)]; exact m8) (by repeat (first | exact hF | refine JF.put ?_ (by exact .inl (by decide))))
        case m5 => rw [set_ne (by decide)]; exact m5
        subst hr; subst hm'
        simp -implicitDefEqProofs only [vqa, Nat.reduceEqDiff, Nat.reduceAdd, reduceIte, Nat.reduceLeDiff, Nat.reduceBEq, Nat.reduceLT, Nat.reduceSub, Int.reduceLT, Int.reduceLE, Int.reduceEq, Int.reduceToNat, Nat.reduceMul, eq_self, implies_true, forall_const, restr_two1, restr_two2, agree_two, h0, h4, m4, h6, m5, m8, h38, h39, h40, hm]
        refine ⟨⟨by omega, by omega⟩, hi, ?_, wI (by omega) (by omega), ?_⟩
        · repeat (first | exact hF | refine JF.put ?_ (by first | exact .inl (by decide) | exact .inr rfl))
        · refine ⟨_, _, _, _, set_same _ _ _, ?_, ?_, ?_, ?_⟩
          · repeat (first | exact A1 | refine AccP.put ?_ (by simp))
          · repeat (first | exact A2 | refine AccP.put ?_ (by simp))
          · refine AccP.to2 (AccP.put (AccP.push (by simp) hg (q3 i hi)) (by simp)) (by omega)
          · repeat (first | exact A4 | refine AccP.put ?_ (by simp))
      · skip
        refine vAny [0, 1, 2, 3, 4, 5, 6, 7, 9, 10, 11, 8, 12, 13, 14, 15, 16, 17, 18] 18 (twoL 8 2010) (by kernel_rfl) (by kernel_rfl) ?_
        simp -implicitDefEqProofs only [vqa, Nat.reduceEqDiff, Nat.reduceAdd, reduceIte, Nat.reduceLeDiff, Nat.reduceBEq, Nat.reduceLT, Nat.reduceSub, Int.reduceLT, Int.reduceLE, Int.reduceEq, Int.reduceToNat, Nat.reduceMul, eq_self, implies_true, forall_const, restr_two1, restr_two2, agree_two, h0, h4, m4, h6, m5, m8, h38, h39, h40, hm]
        refine CallW.mono (p109 hv ?ji ?m5 (G.A i) (up hi (gd.A i hi)) hnn hT) fun r m' ⟨hr, hm'⟩ => ?_
        case ji => exact ji_of hJ (by rw [set_ne (by decide)]; exact m8) (by repeat (first | exact hF | refine JF.put ?_ (by exact .inl (by decide))))
        case m5 => rw [set_ne (by decide)]; exact m5
        subst hr; subst hm'
        simp -implicitDefEqProofs only [vqa, Nat.reduceEqDiff, Nat.reduceAdd, reduceIte, Nat.reduceLeDiff, Nat.reduceBEq, Nat.reduceLT, Nat.reduceSub, Int.reduceLT, Int.reduceLE, Int.reduceEq, Int.reduceToNat, Nat.reduceMul, eq_self, implies_true, forall_const, restr_two1, restr_two2, agree_two, h0, h4, m4, h6, m5, m8, h38, h39, h40, hm]
        refine CallW.mono (p109 hv ?ji ?m5 (G.B i) (up hi (gd.B i hi)) hnn hT) fun r m' ⟨hr, hm'⟩ => ?_
        case ji => exact ji_of hJ (by rw [set_ne (by decide)]; exact m8) (by repeat (first | exact hF | refine JF.put ?_ (by exact .inl (by decide))))
        case m5 => rw [set_ne (by decide)]; exact m5
        subst hr; subst hm'
        simp -implicitDefEqProofs only [vqa, Nat.reduceEqDiff, Nat.reduceAdd, reduceIte, Nat.reduceLeDiff, Nat.reduceBEq, Nat.reduceLT, Nat.reduceSub, Int.reduceLT, Int.reduceLE, Int.reduceEq, Int.reduceToNat, Nat.reduceMul, eq_self, implies_true, forall_const, restr_two1, restr_two2, agree_two, h0, h4, m4, h6, m5, m8, h38, h39, h40, hm]
        refine ⟨⟨by omega, by omega⟩, hi, ?_, wI (by omega) (by omega), ?_⟩
        · repeat (first | exact hF | refine JF.put ?_ (by first | exact .inl (by decide) | exact .inr rfl))
        · refine ⟨_, _, _, _, set_same _ _ _, ?_, ?_, ?_, ?_⟩
          · repeat (first | exact A1 | refine AccP.put ?_ (by simp))
          · repeat (first | exact A2 | refine AccP.put ?_ (by simp))
          · refine AccP.to2 (AccP.put (AccP.push (by simp) hg (q3 i hi)) (by simp)) (by omega)
          · repeat (first | exact A4 | refine AccP.put ?_ (by simp))
  clear h0 h4 m4 h6 m5 hF h15 h16 h17 m8 A1 A2 A3 A4 y1 y2 y3 y4 e m
  rintro e m ⟨h0, h4, m4, h6, m5, hF, h38, h39, h40, y1, y2, y3, y4, m8, A1, A2, A3, A4⟩
  unfold b98_1
  simp -implicitDefEqProofs only [vqa, Nat.reduceEqDiff, Nat.reduceAdd, reduceIte, Nat.reduceLeDiff, Nat.reduceBEq, Nat.reduceLT, Nat.reduceSub, Int.reduceLT, Int.reduceLE, Int.reduceEq, Int.reduceToNat, Nat.reduceMul, eq_self, implies_true, forall_const, h0, h4, m4, h6, m5, m8, h38, h39, h40]
  refine seq_join (fun e m => e 0 = .ptr 8 V 0 ∧ e 4 = .ptr 2004 V4 0 ∧ m 2004 = .var V4 [.fs G.ni f0, .fs G.no f1, .fs G.nr f2, .fs G.na f3, .fs G.nk f4] ∧ e 6 = .fn 109 [.ptr 2005 V5 0] ∧ m 2005 = .var V5 [.fn vk vc] ∧ JF mem m ∧ AdS [1070, 2070] [1033, 2033] [1059, 2059] [1089, 2089] V x0 p1 p2 p3 p4 (n1 + G.no) (n2 + G.nr) (n3 + G.na) n4 m) ?_ ?_
  · skip
    obtain ⟨hz, rfl⟩ | ⟨s', sv, gg, hs'0, rfl, hm, hg, hgn⟩ := A1
    · skip
      refine vAny [0, 1, 2, 3, 4, 5, 6, 7, 8, 9, 10] 10 (twoL 8 2004) (by kernel_rfl) (by kernel_rfl) ?_
      simp -implicitDefEqProofs only [vqa, Nat.reduceEqDiff, Nat.reduceAdd, reduceIte, Nat.reduceLeDiff, Nat.reduceBEq, Nat.reduceLT, Nat.reduceSub, Int.reduceLT, Int.reduceLE, Int.reduceEq, Int.reduceToNat, Nat.reduceMul, eq_self, implies_true, forall_const, restr_two1, restr_two2, agree_two, h0, h4, m4, h6, m5, m8]
      rcases Nat.eq_zero_or_pos G.no with hno | hno
      · simp only [hno, vqa, Nat.reduceEqDiff, Nat.reduceAdd, reduceIte, Nat.reduceLeDiff, Nat.reduceBEq, Nat.reduceLT, Nat.reduceSub, Int.reduceLT, Int.reduceLE, Int.reduceEq, Int.reduceToNat, Nat.reduceMul, eq_self, implies_true, forall_const, restr_two1, restr_two2, agree_two, h0, h4, m4, h6, m5, m8]
        refine ⟨?_, ?_⟩
        · repeat (first | exact hF | refine JF.put ?_ (by first | exact .inl (by decide) | exact .inr rfl))
        · refine ⟨_, _, _, _, set_same _ _ _, .inl ⟨by omega, rfl⟩, ?_, ?_, ?_⟩
          · repeat (first | exact A2 | refine AccP.put ?_ (by simp))
          · repeat (first | exact A3 | refine AccP.put ?_ (by simp))
          · repeat (first | exact A4 | refine AccP.put ?_ (by simp))
      · obtain ⟨no', hno'⟩ : ∃ k, G.no = k + 1 := ⟨G.no - 1, by omega⟩
        simp only [hno', vqa, Nat.reduceEqDiff, Nat.reduceAdd, reduceIte, Nat.reduceLeDiff, Nat.reduceBEq, Nat.reduceLT, Nat.reduceSub, Int.reduceLT, Int.reduceLE, Int.reduceEq, Int.reduceToNat, Nat.reduceMul, eq_self, implies_true, forall_const, restr_two1, restr_two2, agree_two, h0, h4, m4, h6, m5, m8]
        refine ⟨⟨fun i hi => by rw [g1 i (by omega)]; exact ⟨rfl, rfl⟩, by omega, by omega⟩, ?_, ?_⟩
        · repeat (first | exact hF | refine JF.put ?_ (by first | exact .inl (by decide) | exact .inr rfl))
        · refine ⟨_, _, _, _, set_same _ _ _, AccP.put (.inr ⟨2070, _, f1, by simp, by rw [hz, Nat.zero_add], by rw [hz, Nat.zero_add]; exact set_same _ _ _, fun i hi => ?_, by omega⟩) (by simp), ?_, ?_, ?_⟩
          · have hq := q1 i (by omega)
            rw [hz, Nat.zero_add] at hq
            rw [g1 i (by omega)]; exact hq
          · repeat (first | exact A2 | refine AccP.put ?_ (by simp))
          · repeat (first | exact A3 | refine AccP.put ?_ (by simp))
          · repeat (first | exact A4 | refine AccP.put ?_ (by simp))
    · have hs'' : s' = 1070 ∨ s' = 2070 := by simpa using hs'0
      obtain rfl | rfl := hs''
      · skip
        refine vAny [0, 1, 2, 3, 4, 5, 6, 7, 8, 9, 10] 10 (twoL 8 2004) (by kernel_rfl) (by kernel_rfl) ?_
        simp -implicitDefEqProofs only [vqa, Nat.reduceEqDiff, Nat.reduceAdd, reduceIte, Nat.reduceLeDiff, Nat.reduceBEq, Nat.reduceLT, Nat.reduceSub, Int.reduceLT, Int.reduceLE, Int.reduceEq, Int.reduceToNat, Nat.reduceMul, eq_self, implies_true, forall_const, restr_two1, restr_two2, agree_two, h0, h4, m4, h6, m5, m8, hm]
        refine ⟨⟨fun i hi => by rw [g1 i hi]; exact ⟨rfl, rfl⟩, by omega, by omega⟩, ?_, ?_⟩
        · repeat (first | exact hF | refine JF.put ?_ (by first | exact .inl (by decide) | exact .inr rfl))
        · refine ⟨_, _, _, _, set_same _ _ _, AccP.put (.inr ⟨_, _, _, (by simp), rfl, set_same _ _ _, fun i hi => ?_, by omega⟩) (by simp), ?_, ?_, ?_⟩
          · by_cases k : i < n1
            · simp only [k, decide_true, cond_true]; exact hg i k
            · simp only [k, decide_false, cond_false]
              have hq := q1 (i - n1) (by omega)
              rw [show n1 + (i - n1) = i by omega] at hq
              rw [g1 _ (by omega)]; exact hq
          · repeat (first | exact A2 | refine AccP.put ?_ (by simp))
          · repeat (first | exact A3 | refine AccP.put ?_ (by simp))
          · repeat (first | exact A4 | refine AccP.put ?_ (by simp))
      · skip
        refine vAny [0, 1, 2, 3, 4, 5, 6, 7, 8, 9, 10] 10 (twoL 8 2004) (by kernel_rfl) (by kernel_rfl) ?_
        simp -implicitDefEqProofs only [vqa, Nat.reduceEqDiff, Nat.reduceAdd, reduceIte, Nat.reduceLeDiff, Nat.reduceBEq, Nat.reduceLT, Nat.reduceSub, Int.reduceLT, Int.reduceLE, Int.reduceEq, Int.reduceToNat, Nat.reduceMul, eq_self, implies_true, forall_const, restr_two1, restr_two2, agree_two, h0, h4, m4, h6, m5, m8, hm]
        refine ⟨⟨fun i hi => by rw [g1 i hi]; exact ⟨rfl, rfl⟩, by omega, by omega⟩, ?_, ?_⟩
        · repeat (first | exact hF | refine JF.put ?_ (by first | exact .inl (by decide) | exact .inr rfl))
        · refine ⟨_, _, _, _, set_same _ _ _, AccP.put (.inr ⟨_, _, _, (by simp), rfl, set_same _ _ _, fun i hi => ?_, by omega⟩) (by simp), ?_, ?_, ?_⟩
          · by_cases k : i < n1
            · simp only [k, decide_true, cond_true]; exact hg i k
            · simp only [k, decide_false, cond_false]
              have hq := q1 (i - n1) (by omega)
              rw [show n1 + (i - n1) = i by omega] at hq
              rw [g1 _ (by omega)]; exact hq
          · repeat (first | exact A2 | refine AccP.put ?_ (by simp))
          · repeat (first | exact A3 | refine AccP.put ?_ (by simp))
          · repeat (first | exact A4 | refine AccP.put ?_ (by simp))
  clear h0 h4 m4 h6 m5 hF h38 h39 h40 m8 A1 A2 A3 A4 y1 y2 y3 y4 e m
  rintro e m ⟨h0, h4, m4, h6, m5, hF, hA0⟩
  simp -implicitDefEqProofs only [vqa, Nat.reduceEqDiff, Nat.reduceAdd, reduceIte, Nat.reduceLeDiff, Nat.reduceBEq, Nat.reduceLT, Nat.reduceSub, Int.reduceLT, Int.reduceLE, Int.reduceEq, Int.reduceToNat, Nat.reduceMul, eq_self, implies_true, forall_const, h0, h4, m4, h6, m5]
  refine vFor G.nk (fun i e m => e 0 = .ptr 8 V 0 ∧ e 4 = .ptr 2004 V4 0 ∧ m 2004 = .var V4 [.fs G.ni f0, .fs G.no f1, .fs G.nr f2, .fs G.na f3, .fs G.nk f4] ∧ e 6 = .fn 109 [.ptr 2005 V5 0] ∧ m 2005 = .var V5 [.fn vk vc] ∧ JF mem m ∧ e 74 = .fs G.nk f4 ∧ e 75 = .int .i64 G.nk ∧ e 76 = .int .i64 i ∧ AdS [1070, 2070] [1033, 2033] [1059, 2059] [1089, 2089] V x0 p1 p2 p3 p4 (n1 + G.no) (n2 + G.nr) (n3 + G.na) (n4 + i) m) ?_ ?_ ?_
  · simp -implicitDefEqProofs only [vqa, Nat.reduceEqDiff, Nat.reduceAdd, reduceIte, Nat.reduceLeDiff, Nat.reduceBEq, Nat.reduceLT, Nat.reduceSub, Int.reduceLT, Int.reduceLE, Int.reduceEq, Int.reduceToNat, Nat.reduceMul, eq_self, implies_true, forall_const, h0, h4, m4, h6, m5]
    exact ⟨hF, hA0⟩
  · clear h0 h4 m4 h6 m5 hF hA0 e m
    rintro i e m hi hi' ⟨h0, h4, m4, h6, m5, hF, h74, h75, h76, y1, y2, y3, y4, m8, A1, A2, A3, A4⟩
    have hfi := g4 i hi
    unfold b98_2
    simp -implicitDefEqProofs only [vqa, Nat.reduceEqDiff, Nat.reduceAdd, reduceIte, Nat.reduceLeDiff, Nat.reduceBEq, Nat.reduceLT, Nat.reduceSub, Int.reduceLT, Int.reduceLE, Int.reduceEq, Int.reduceToNat, Nat.reduceMul, eq_self, implies_true, forall_const, h0, h4, m4, h6, m5, m8, h74, h75, h76, hi', hfi]
    refine ⟨by omega, ?_⟩
    obtain ⟨hz, rfl⟩ | ⟨s', sv, gg, hs', rfl, hm, hg, hgn⟩ := A4
    · skip
      refine vAny [0, 1, 2, 3, 4, 5, 6, 7, 8, 9, 10, 11, 12] 12 (oneL 8) (by kernel_rfl) (by kernel_rfl) ?_
      simp -implicitDefEqProofs only [vqa, Nat.reduceEqDiff, Nat.reduceAdd, reduceIte, Nat.reduceLeDiff, Nat.reduceBEq, Nat.reduceLT, Nat.reduceSub, Int.reduceLT, Int.reduceLE, Int.reduceEq, Int.reduceToNat, Nat.reduceMul, eq_self, implies_true, forall_const, h0, h4, m4, h6, m5, m8, h74, h75, h76]
      refine CallW.mono (p109 hv ?ji ?m5 (G.outs i) (gd.outs i hi) hnn hT) fun r m' ⟨hr, hm'⟩ => ?_
      case ji => exact ji_of hJ m8 hF
      case m5 => exact m5
      subst hr; subst hm'
      simp -implicitDefEqProofs only [vqa, Nat.reduceEqDiff, Nat.reduceAdd, reduceIte, Nat.reduceLeDiff, Nat.reduceBEq, Nat.reduceLT, Nat.reduceSub, Int.reduceLT, Int.reduceLE, Int.reduceEq, Int.reduceToNat, Nat.reduceMul, eq_self, implies_true, forall_const, h0, h4, m4, h6, m5, m8, h74, h75, h76]
      have hq := q4 i hi
      rw [hz] at hq
      obtain rfl : i = 0 := by omega
      refine ⟨hi, ?_, wI (by omega) (by omega), ?_⟩
      · repeat (first | exact hF | refine JF.put ?_ (by first | exact .inl (by decide) | exact .inr rfl))
      · refine ⟨_, _, _, _, set_same _ _ _, ?_, ?_, ?_, ?_⟩
        · repeat (first | exact A1 | refine AccP.put ?_ (by simp))
        · repeat (first | exact A2 | refine AccP.put ?_ (by simp))
        · repeat (first | exact A3 | refine AccP.put ?_ (by simp))
        · refine AccP.to2 (AccP.put (AccP.first (by simp) hq) (by simp)) (by omega)
    · have hs'' : s' = 1089 ∨ s' = 2089 := by simpa using hs'
      obtain rfl | rfl := hs''
      · skip
        refine vAny [0, 1, 2, 3, 4, 5, 6, 7, 8, 9, 10, 11, 12] 12 (oneL 8) (by kernel_rfl) (by kernel_rfl) ?_
        simp -implicitDefEqProofs only [vqa, Nat.reduceEqDiff, Nat.reduceAdd, reduceIte, Nat.reduceLeDiff, Nat.reduceBEq, Nat.reduceLT, Nat.reduceSub, Int.reduceLT, Int.reduceLE, Int.reduceEq, Int.reduceToNat, Nat.reduceMul, eq_self, implies_true, forall_const, h0, h4, m4, h6, m5, m8, h74, h75, h76, hm]
        refine CallW.mono (p109 hv ?ji ?m5 (G.outs i) (gd.outs i hi) hnn hT) fun r m' ⟨hr, hm'⟩ => ?_
        case ji => exact ji_of hJ m8 hF
        case m5 => exact m5
        subst hr; subst hm'
        simp -implicitDefEqProofs only [vqa, Nat.reduceEqDiff, Nat.reduceAdd, reduceIte, Nat.reduceLeDiff, Nat.reduceBEq, Nat.reduceLT, Nat.reduceSub, Int.reduceLT, Int.reduceLE, Int.reduceEq, Int.reduceToNat, Nat.reduceMul, eq_self, implies_true, forall_const, h0, h4, m4, h6, m5, m8, h74, h75, h76, hm]
        refine ⟨⟨by omega, by omega⟩, hi, ?_, wI (by omega) (by omega), ?_⟩
        · repeat (first | exact hF | refine JF.put ?_ (by first | exact .inl (by decide) | exact .inr rfl))
        · refine ⟨_, _, _, _, set_same _ _ _, ?_, ?_, ?_, ?_⟩
          · repeat (first | exact A1 | refine AccP.put ?_ (by simp))
          · repeat (first | exact A2 | refine AccP.put ?_ (by simp))
          · repeat (first | exact A3 | refine AccP.put ?_ (by simp))
          · refine AccP.to2 (AccP.put (AccP.push (by simp) hg (q4 i hi)) (by simp)) (by omega)
      · skip
        refine vAny [0, 1, 2, 3, 4, 5, 6, 7, 8, 9, 10, 11, 12] 12 (oneL 8) (by kernel_rfl) (by kernel_rfl) ?_
        simp -implicitDefEqProofs only [vqa, Nat.reduceEqDiff, Nat.reduceAdd, reduceIte, Nat.reduceLeDiff, Nat.reduceBEq, Nat.reduceLT, Nat.reduceSub, Int.reduceLT, Int.reduceLE, Int.reduceEq, Int.reduceToNat, Nat.reduceMul, eq_self, implies_true, forall_const, h0, h4, m4, h6, m5, m8, h74, h75, h76, hm]
        refine CallW.mono (p109 hv ?ji ?m5 (G.outs i) (gd.outs i hi) hnn hT) fun r m' ⟨hr, hm'⟩ => ?_
        case ji => exact ji_of hJ m8 hF
        case m5 => exact m5
        subst hr; subst hm'
        simp -implicitDefEqProofs only [vqa, Nat.reduceEqDiff, Nat.reduceAdd, reduceIte, Nat.reduceLeDiff, Nat.reduceBEq, Nat.reduceLT, Nat.reduceSub, Int.reduceLT, Int.reduceLE, Int.reduceEq, Int.reduceToNat, Nat.reduceMul, eq_self, implies_true, forall_const, h0, h4, m4, h6, m5, m8, h74, h75, h76, hm]
        refine ⟨⟨by omega, by omega⟩, hi, ?_, wI (by omega) (by omega), ?_⟩
        · repeat (first | exact hF | refine JF.put ?_ (by first | exact .inl (by decide) | exact .inr rfl))
        · refine ⟨_, _, _, _, set_same _ _ _, ?_, ?_, ?_, ?_⟩
          · repeat (first | exact A1 | refine AccP.put ?_ (by simp))
          · repeat (first | exact A2 | refine AccP.put ?_ (by simp))
          · repeat (first | exact A3 | refine AccP.put ?_ (by simp))
          · refine AccP.to2 (AccP.put (AccP.push (by simp) hg (q4 i hi)) (by simp)) (by omega)
  clear h0 h4 m4 h6 m5 hF hA0 e m
  rintro e m ⟨h0, h4, m4, h6, m5, hF, h74, h75, h76, hA1⟩
  unfold b98_2
  simp -implicitDefEqProofs only [vqa, Nat.reduceEqDiff, Nat.reduceAdd, reduceIte, Nat.reduceLeDiff, Nat.reduceBEq, Nat.reduceLT, Nat.reduceSub, Int.reduceLT, Int.reduceLE, Int.reduceEq, Int.reduceToNat, Nat.reduceMul, eq_self, implies_true, forall_const, h0, h4, m4, h6, m5, h74, h75, h76]
  exact ⟨hA1, hF⟩
end Go.Ab
