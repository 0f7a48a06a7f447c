/- The law GraphJoins. -/
import Derived.Test.YtodncnlnadgkhabSaJoin5
import Derived.Test.YtodncnlnadgkhabSaGFau0
import Derived.Test.YtodncnlnadgkhabSaGr0
set_option linter.unusedSimpArgs false
set_option linter.unusedVariables false
namespace Go.Ab
open Go
def a14 : AC := (.seq (.ops [⟨(some 2), none, (.e (.box 2 0 (.t 0)))⟩, ⟨(some 3), none, (.e (.box 3 0 (.t 1)))⟩, ⟨(some 4), none, (.v (.mv (.c (.bool false))))⟩]) (.seq (.ops [⟨(some 10), none, (.v (.load 5 true (.t 2)))⟩, ⟨(some 11), none, (.v (.load 5 true (.t 3)))⟩, ⟨(some 12), none, (.call (.c (.fn 66 [])) [(.t 10), (.t 11)])⟩, ⟨(some 9), none, (.v (.mv (.t 12)))⟩, ⟨(some 13), none, (.v (.ext 0 (.t 9)))⟩, ⟨(some 14), none, (.v (.ext 1 (.t 9)))⟩, ⟨(some 5), none, (.e (.alloc 5 [.cap0, .cap0, .cap0, .cap0, .cap0]))⟩, ⟨none, none, (.e (.store 5 (.t 5) (.t 13)))⟩, ⟨(some 6), none, (.v (.mv (.t 14)))⟩]) (.seq (.ops [⟨(some 15), none, (.v (.load 5 true (.t 2)))⟩, ⟨(some 16), none, (.call (.c (.fn 30 [])) [(.t 15)])⟩, ⟨(some 7), none, (.v (.mv (.t 16)))⟩]) (.seq (.seq (.ops [⟨(some 17), none, (.v (.mv (.t 7)))⟩, ⟨(some 18), none, (.v (.bin .eql (.t 17) (.c (.int .i64 0))))⟩]) (.cond (.t 18) (.ops [⟨(some 19), none, (.v (.load 5 true (.t 3)))⟩, ⟨(some 20), none, (.call (.c (.fn 30 [])) [(.t 19)])⟩, ⟨(some 7), none, (.v (.mv (.t 20)))⟩]) .skip)) (.seq (.ops [⟨(some 8), none, (.e (.alloc 8 [.cap0, .cap0, .cap0, .cap0, .cap0]))⟩]) (.seq (.seq (.ops [⟨(some 21), none, (.v (.mv (.t 7)))⟩, ⟨(some 22), none, (.v (.bin .eql (.t 21) (.c (.int .i64 0))))⟩]) (.cond (.t 22) (.ops [⟨(some 24), none, (.v (.load 5 true (.t 2)))⟩, ⟨(some 25), none, (.v (.load 5 true (.t 3)))⟩, ⟨(some 26), none, (.call (.c (.fn 67 [])) [(.t 24), (.t 25)])⟩, ⟨(some 23), none, (.v (.mv (.t 26)))⟩, ⟨(some 27), none, (.v (.ext 0 (.t 23)))⟩, ⟨(some 28), none, (.v (.ext 1 (.t 23)))⟩, ⟨none, none, (.e (.store 5 (.t 8) (.t 27)))⟩, ⟨(some 7), none, (.v (.mv (.t 28)))⟩]) .skip)) (.seq (.ops [⟨(some 29), none, (.call (.c (.fn 17 [])) [])⟩, ⟨(some 30), none, (.v (.mv (.t 29)))⟩, ⟨(some 31), (some (30, true)), (.v (.mv (.t 6)))⟩, ⟨(some 32), (some (30, true)), (.v (.mv (.t 7)))⟩, ⟨(some 33), (some (30, true)), (.v (.bin .eql (.t 31) (.t 32)))⟩, ⟨(some 34), none, (.v (.pick (.t 30) (.t 33) (.c (.bool false))))⟩, ⟨(some 35), none, (.v (.mv (.t 34)))⟩, ⟨(some 36), (some (35, true)), (.v (.load 5 true (.t 5)))⟩, ⟨(some 37), (some (35, true)), (.v (.load 5 true (.t 8)))⟩, ⟨(some 38), (some (35, true)), (.call (.c (.fn 32 [])) [(.t 36), (.t 37)])⟩, ⟨(some 39), none, (.v (.pick (.t 35) (.t 38) (.c (.bool false))))⟩, ⟨(some 4), none, (.v (.mv (.t 39)))⟩]) .ret)))))))
def r14 : List AI := [(.mv (.t 4))]
theorem f14 : Fn PP 14 2 a14 r14 := Fn.of (fn := Go.Proofs.Try.f14) (by kernel_rfl) (by kernel_rfl) (by kernel_rfl)
theorem joinRes_ok {G H : Gra} (ok : G.Ok) (kk : H.Ok) : (joinRes G H).Ok := by
  unfold joinRes
  split
  · rename_i h
    unfold joinF at h
    by_cases z1 : graphF G = 0
    · rw [if_neg (by simpa using z1)] at h
      by_cases z2 : graphF H = 0
      · exact joinG_ok z1 z2 ok kk
      · rw [if_pos z2] at h; exact absurd h z2
    · rw [if_pos z1] at h; exact absurd h z1
  · exact nilG_ok
theorem p14 {G H : Gra} {cs ds : List AV} (hG : GraC cs G) (ok : G.Ok) (hH : GraC ds H) (kk : H.Ok) : Pure PP 14 [.agg cs, .agg ds] fun r => r = .bool true := by
  have hG0 := hG
  have hH0 := hH
  have jok := joinRes_ok ok kk
  obtain ⟨f0, f1, f2, f3, f4, rfl, _⟩ := hG
  obtain ⟨h0, h1, h2, h3, h4, rfl, _⟩ := hH
  refine Fn.pure fmix f14 ?_
  unfold a14 r14
  simp -implicitDefEqProofs only [vqa, Nat.reduceEqDiff, Nat.reduceAdd, reduceIte, Nat.reduceLeDiff, Nat.reduceBEq, Nat.reduceLT, Nat.reduceSub, Int.reduceLT, Int.reduceLE, Int.reduceEq, Int.reduceToNat, Nat.reduceMul, eq_self, implies_true, forall_const]
  generalize (mem0 2).ver + 1 = V2
  generalize (mem0 3).ver + 1 = V3
  refine CallW.fz (p66 hG0 ok hH0 kk) rfl rfl fun r ⟨es, hr, hE⟩ => ⟨by subst hr; obtain ⟨_, _, _, _, _, rfl, _⟩ := hE; rfl, ?_⟩
  subst hr
  have hE' := hE
  obtain ⟨d0, d1, d2, d3, d4, rfl, _⟩ := hE
  simp -implicitDefEqProofs only [vqa, Nat.reduceEqDiff, Nat.reduceAdd, reduceIte, Nat.reduceLeDiff, Nat.reduceBEq, Nat.reduceLT, Nat.reduceSub, Int.reduceLT, Int.reduceLE, Int.reduceEq, Int.reduceToNat, Nat.reduceMul, eq_self, implies_true, forall_const]
  generalize (mem0 5).ver + 1 = V5
  refine CallW.sc (p30 hG0 ok) rfl ⟨⟨trivial, trivial, trivial, trivial, trivial, trivial⟩, trivial⟩ fun r hr => ⟨by subst hr; rfl, ?_⟩
  subst hr
  have bad : ∀ {mem : Mem} {K : AV → Mem → Prop}, joinRes G H = nilG → K (.bool true) mem → CallW PP 32 [.agg [.fs (joinRes G H).ni d0, .fs (joinRes G H).no d1, .fs (joinRes G H).nr d2, .fs (joinRes G H).na d3, .fs (joinRes G H).nk d4], .agg [.cap0, .cap0, .cap0, .cap0, .cap0]] mem K := fun h hK => by
    refine CallW.fz (p32 hE' jok (nilG_c _ _ _ _ _) nilG_ok) rfl rfl fun r ⟨b, hr, hb⟩ => ⟨by subst hr; rfl, ?_⟩
    obtain rfl : b = true := hb.2 (by rw [h]; exact sameG_refl _)
    subst hr
    exact hK
  by_cases z1 : graphF G = 0
  · have hg1 : ¬ graphF G ≠ 0 := by simpa using z1
    simp -implicitDefEqProofs only [vqa, Nat.reduceEqDiff, Nat.reduceAdd, reduceIte, Nat.reduceLeDiff, Nat.reduceBEq, Nat.reduceLT, Nat.reduceSub, Int.reduceLT, Int.reduceLE, Int.reduceEq, Int.reduceToNat, Nat.reduceMul, eq_self, implies_true, forall_const, z1]
    refine CallW.sc (p30 hH0 kk) rfl ⟨⟨trivial, trivial, trivial, trivial, trivial, trivial⟩, trivial⟩ fun r hr => ⟨by subst hr; rfl, ?_⟩
    subst hr
    by_cases z2 : graphF H = 0
    · simp -implicitDefEqProofs only [vqa, Nat.reduceEqDiff, Nat.reduceAdd, reduceIte, Nat.reduceLeDiff, Nat.reduceBEq, Nat.reduceLT, Nat.reduceSub, Int.reduceLT, Int.reduceLE, Int.reduceEq, Int.reduceToNat, Nat.reduceMul, eq_self, implies_true, forall_const, z2]
      refine CallW.fz (p67 hG0 ok hH0 kk z1 z2) rfl rfl fun r ⟨es, hr, hF⟩ => ⟨by subst hr; obtain ⟨_, _, _, _, _, rfl, _⟩ := hF; rfl, ?_⟩
      subst hr
      have hF' := hF
      obtain ⟨u0, u1, u2, u3, u4, rfl, _⟩ := hF
      simp -implicitDefEqProofs only [vqa, Nat.reduceEqDiff, Nat.reduceAdd, reduceIte, Nat.reduceLeDiff, Nat.reduceBEq, Nat.reduceLT, Nat.reduceSub, Int.reduceLT, Int.reduceLE, Int.reduceEq, Int.reduceToNat, Nat.reduceMul, eq_self, implies_true, forall_const]
      refine CallW.sc p17 rfl trivial fun r hr => ⟨by subst hr; rfl, ?_⟩
      subst hr
      simp -implicitDefEqProofs only [vqa, Nat.reduceEqDiff, Nat.reduceAdd, reduceIte, Nat.reduceLeDiff, Nat.reduceBEq, Nat.reduceLT, Nat.reduceSub, Int.reduceLT, Int.reduceLE, Int.reduceEq, Int.reduceToNat, Nat.reduceMul, eq_self, implies_true, forall_const]
      refine CallW.sc (p32 hE' jok hF' jok) rfl ⟨⟨trivial, trivial, trivial, trivial, trivial, trivial⟩, ⟨trivial, trivial, trivial, trivial, trivial, trivial⟩, trivial⟩ fun r ⟨b, hr, hb⟩ => ⟨by subst hr; rfl, ?_⟩
      obtain rfl : b = true := hb.2 (sameG_refl _)
      subst hr
      simp -implicitDefEqProofs only [vqa, Nat.reduceEqDiff, Nat.reduceAdd, reduceIte, Nat.reduceLeDiff, Nat.reduceBEq, Nat.reduceLT, Nat.reduceSub, Int.reduceLT, Int.reduceLE, Int.reduceEq, Int.reduceToNat, Nat.reduceMul, eq_self, implies_true, forall_const]
    · have e : joinF G H = graphF H := by unfold joinF; rw [if_neg hg1, if_pos z2]
      have e2 : joinRes G H = nilG := by unfold joinRes; rw [if_neg (by rw [e]; exact z2)]
      simp -implicitDefEqProofs only [vqa, Nat.reduceEqDiff, Nat.reduceAdd, reduceIte, Nat.reduceLeDiff, Nat.reduceBEq, Nat.reduceLT, Nat.reduceSub, Int.reduceLT, Int.reduceLE, Int.reduceEq, Int.reduceToNat, Nat.reduceMul, eq_self, implies_true, forall_const, z2]
      refine CallW.sc p17 rfl trivial fun r hr => ⟨by subst hr; rfl, ?_⟩
      subst hr
      simp -implicitDefEqProofs only [vqa, Nat.reduceEqDiff, Nat.reduceAdd, reduceIte, Nat.reduceLeDiff, Nat.reduceBEq, Nat.reduceLT, Nat.reduceSub, Int.reduceLT, Int.reduceLE, Int.reduceEq, Int.reduceToNat, Nat.reduceMul, eq_self, implies_true, forall_const, e]
      refine bad e2 ?_
      simp -implicitDefEqProofs only [vqa, Nat.reduceEqDiff, Nat.reduceAdd, reduceIte, Nat.reduceLeDiff, Nat.reduceBEq, Nat.reduceLT, Nat.reduceSub, Int.reduceLT, Int.reduceLE, Int.reduceEq, Int.reduceToNat, Nat.reduceMul, eq_self, implies_true, forall_const]
  · have e : joinF G H = graphF G := by unfold joinF; rw [if_pos z1]
    have e2 : joinRes G H = nilG := by unfold joinRes; rw [if_neg (by rw [e]; exact z1)]
    simp -implicitDefEqProofs only [vqa, Nat.reduceEqDiff, Nat.reduceAdd, reduceIte, Nat.reduceLeDiff, Nat.reduceBEq, Nat.reduceLT, Nat.reduceSub, Int.reduceLT, Int.reduceLE, Int.reduceEq, Int.reduceToNat, Nat.reduceMul, eq_self, implies_true, forall_const, z1]
    refine CallW.sc p17 rfl trivial fun r hr => ⟨by subst hr; rfl, ?_⟩
    subst hr
    simp -implicitDefEqProofs only [vqa, Nat.reduceEqDiff, Nat.reduceAdd, reduceIte, Nat.reduceLeDiff, Nat.reduceBEq, Nat.reduceLT, Nat.reduceSub, Int.reduceLT, Int.reduceLE, Int.reduceEq, Int.reduceToNat, Nat.reduceMul, eq_self, implies_true, forall_const, e]
    refine bad e2 ?_
    simp -implicitDefEqProofs only [vqa, Nat.reduceEqDiff, Nat.reduceAdd, reduceIte, Nat.reduceLeDiff, Nat.reduceBEq, Nat.reduceLT, Nat.reduceSub, Int.reduceLT, Int.reduceLE, Int.reduceEq, Int.reduceToNat, Nat.reduceMul, eq_self, implies_true, forall_const]
end Go.Ab
