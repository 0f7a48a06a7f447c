/- Walks: Join. -/
import Derived.Test.YtodncnlnadgkhabSaJoin2
import Derived.Test.YtodncnlnadgkhabSaGLits
import Derived.Test.YtodncnlnadgkhabSaGSame
import Derived.Test.YtodncnlnadgkhabSaGNil
import Derived.Test.YtodncnlnadgkhabFwTr
set_option linter.unusedSimpArgs false
set_option linter.unusedVariables false
namespace Go.Ab
open Go
def b33 (b : Nat) : AC := (.seq (.ops [⟨(some 1), none, (.e (.box (b + 1) 0 (.t 0)))⟩, ⟨(some 2), none, (.e (.alloc (b + 2) [.cap0, .cap0, .cap0, .cap0, .cap0]))⟩]) (.seq (.any [⟨(some 3), none, (.v (.fld 0 (.t 1)))⟩, ⟨(some 4), none, (.v (.load 1 false (.t 3)))⟩, ⟨(some 5), none, (.call (.c (.fn 73 [])) [(.t 4)])⟩, ⟨(some 6), none, (.v (.fld 1 (.t 1)))⟩, ⟨(some 7), none, (.v (.load 1 false (.t 6)))⟩, ⟨(some 8), none, (.call (.c (.fn 73 [])) [(.t 7)])⟩, ⟨(some 9), none, (.v (.fld 2 (.t 1)))⟩, ⟨(some 10), none, (.v (.load 1 false (.t 9)))⟩, ⟨(some 11), none, (.call (.c (.fn 81 [])) [(.t 10)])⟩, ⟨(some 12), none, (.v (.fld 3 (.t 1)))⟩, ⟨(some 13), none, (.v (.load 1 false (.t 12)))⟩, ⟨(some 14), none, (.call (.c (.fn 82 [])) [(.t 13)])⟩, ⟨(some 15), none, (.v (.fld 4 (.t 1)))⟩, ⟨(some 16), none, (.v (.load 1 false (.t 15)))⟩, ⟨(some 17), none, (.call (.c (.fn 72 [])) [(.t 16)])⟩, ⟨(some 18), none, (.v (.build [.cap0, .cap0, .cap0, .cap0, .cap0] [(0, (1, (.t 5))), (1, (1, (.t 8))), (2, (1, (.t 11))), (3, (1, (.t 14))), (4, (1, (.t 17)))]))⟩, ⟨none, none, (.e (.store 5 (.t 2) (.t 18)))⟩] [[], [0], [1], [], [3], [4, 2], [], [6], [7, 5], [], [9], [10, 8], [], [12], [13, 11], [2, 5, 8, 11, 14], [15, 14, 0, 1, 2, 3, 4, 5, 6, 7, 8, 9, 10, 11, 12, 13, 14, 15]]) .ret))
def q33 : List AI := [(.load 5 true (.t 2))]
theorem g33 (b : Nat) : Fn PP 33 1 (b33 b) q33 := Fn.ofB b (fn := Go.Proofs.Try.f33) (by kernel_rfl) (by kernel_rfl) (by kernel_rfl)
def a66_0 : AC := (.seq (.ops [⟨(some 34), none, (.v (.bin .lss (.t 33) (.t 32)))⟩]) (.seq (.cond (.t 34) .skip (.exit 0)) (.seq (.block 1 (.seq (.ops [⟨(some 35), none, (.v (.idx 1 (.t 31) (.t 33)))⟩, ⟨(some 36), none, (.v (.load 1 false (.t 35)))⟩, ⟨(some 10), none, (.v (.mv (.t 36)))⟩]) (.seq (.ops [⟨(some 37), none, (.v (.fld 0 (.t 2)))⟩, ⟨(some 38), none, (.v (.load 1 false (.t 37)))⟩, ⟨(some 39), none, (.v (.mv (.t 10)))⟩, ⟨(some 40), none, (.call (.c (.fn 71 [])) [(.t 38), (.t 39)])⟩, ⟨(some 41), none, (.v (.not (.t 40)))⟩]) (.cond (.t 41) (.ops [⟨(some 42), none, (.v (.fld 0 (.t 8)))⟩, ⟨(some 43), none, (.v (.load 1 false (.t 42)))⟩, ⟨(some 44), none, (.v (.mv (.t 10)))⟩, ⟨(some 45), none, (.e (.lit 45 9 1 1 [(.str ⟨#[]⟩)] [(0, (.t 44))]))⟩, ⟨(some 46), none, (.e (.app 46 9 1 16 (.t 43) (.t 45)))⟩, ⟨(some 47), none, (.v (.fld 0 (.t 8)))⟩, ⟨none, none, (.e (.store 1 (.t 47) (.t 46)))⟩]) .skip)))) (.ops [⟨(some 48), none, (.v (.bin .add (.t 33) (.c (.int .i64 1))))⟩, ⟨(some 33), none, (.v (.mv (.t 48)))⟩]))))
def a66 : AC := (.seq (.ops [⟨(some 2), none, (.e (.box 2 0 (.t 0)))⟩, ⟨(some 3), none, (.e (.box 3 0 (.t 1)))⟩, ⟨(some 4), none, (.e (.alloc 4 [.cap0, .cap0, .cap0, .cap0, .cap0]))⟩, ⟨(some 5), none, (.v (.mv (.c (.int .i64 0))))⟩]) (.seq (.seq (.ops [⟨(some 16), none, (.v (.load 5 true (.t 2)))⟩, ⟨(some 17), none, (.call (.c (.fn 29 [])) [(.t 16)])⟩, ⟨(some 6), none, (.v (.mv (.t 17)))⟩]) (.seq (.ops [⟨(some 18), none, (.v (.mv (.t 6)))⟩, ⟨(some 19), none, (.v (.bin .neq (.t 18) (.c (.int .i64 0))))⟩]) (.cond (.t 19) (.seq (.ops [⟨(some 20), none, (.v (.build [.cap0, .cap0, .cap0, .cap0, .cap0] []))⟩, ⟨(some 21), none, (.v (.mv (.t 6)))⟩, ⟨none, none, (.e (.store 5 (.t 4) (.t 20)))⟩, ⟨(some 5), none, (.v (.mv (.t 21)))⟩]) .ret) .skip))) (.seq (.seq (.ops [⟨(some 22), none, (.v (.load 5 true (.t 3)))⟩, ⟨(some 23), none, (.call (.c (.fn 29 [])) [(.t 22)])⟩, ⟨(some 7), none, (.v (.mv (.t 23)))⟩]) (.seq (.ops [⟨(some 24), none, (.v (.mv (.t 7)))⟩, ⟨(some 25), none, (.v (.bin .neq (.t 24) (.c (.int .i64 0))))⟩]) (.cond (.t 25) (.seq (.ops [⟨(some 26), none, (.v (.build [.cap0, .cap0, .cap0, .cap0, .cap0] []))⟩, ⟨(some 27), none, (.v (.mv (.t 7)))⟩, ⟨none, none, (.e (.store 5 (.t 4) (.t 26)))⟩, ⟨(some 5), none, (.v (.mv (.t 27)))⟩]) .ret) .skip))) (.seq (.ops [⟨(some 28), none, (.v (.load 5 true (.t 2)))⟩, ⟨(some 29), none, (.call (.c (.fn 33 [])) [(.t 28)])⟩, ⟨(some 8), none, (.e (.alloc 8 [.cap0, .cap0, .cap0, .cap0, .cap0]))⟩, ⟨none, none, (.e (.store 5 (.t 8) (.t 29)))⟩]) (.seq (.seq (.ops [⟨(some 30), none, (.v (.fld 0 (.t 3)))⟩, ⟨(some 31), none, (.v (.load 1 false (.t 30)))⟩, ⟨(some 32), none, (.v (.len (.t 31)))⟩, ⟨(some 33), none, (.v (.mv (.c (.int .i64 0))))⟩]) (.block 0 (.loop a66_0))) (.seq (.any [⟨(some 49), none, (.v (.fld 0 (.t 8)))⟩, ⟨(some 50), none, (.v (.load 1 false (.t 49)))⟩, ⟨(some 51), none, (.v (.len (.t 50)))⟩, ⟨(some 52), none, (.v (.fld 2 (.t 2)))⟩, ⟨(some 53), none, (.v (.load 1 false (.t 52)))⟩, ⟨(some 54), none, (.v (.len (.t 53)))⟩, ⟨(some 11), none, (.e (.alloc 11 [(.int .i64 0)]))⟩, ⟨(some 12), none, (.e (.alloc 12 [(.int .i64 0)]))⟩, ⟨none, none, (.e (.store 1 (.t 11) (.t 51)))⟩, ⟨none, none, (.e (.store 1 (.t 12) (.t 54)))⟩] [[], [0], [1], [], [3], [4], [], [], [6, 2, 0, 1, 2, 6, 7], [7, 5, 8, 0, 1, 2, 3, 4, 5, 6, 7, 8]]) (.seq (.ops [⟨(some 55), none, (.v (.mkfn 95 [(.t 2), (.t 11), (.t 12), (.t 3)]))⟩, ⟨(some 13), none, (.v (.mv (.t 55)))⟩]) (.seq (.ops [⟨(some 56), none, (.v (.mkfn 96 [(.t 3), (.t 8), (.t 11), (.t 12), (.t 2)]))⟩, ⟨(some 14), none, (.v (.mv (.t 56)))⟩]) (.seq (.ops [⟨(some 57), none, (.v (.fld 3 (.t 8)))⟩, ⟨none, none, (.e (.store 1 (.t 57) (.c .cap0)))⟩, ⟨(some 58), none, (.v (.fld 2 (.t 8)))⟩, ⟨none, none, (.e (.store 1 (.t 58) (.c .cap0)))⟩, ⟨(some 59), none, (.v (.fld 1 (.t 8)))⟩, ⟨none, none, (.e (.store 1 (.t 59) (.c .cap0)))⟩, ⟨(some 60), none, (.v (.fld 4 (.t 8)))⟩, ⟨none, none, (.e (.store 1 (.t 60) (.c .cap0)))⟩]) (.seq (.ops [⟨(some 61), none, (.v (.load 5 true (.t 2)))⟩, ⟨(some 62), none, (.v (.mv (.t 13)))⟩, ⟨(some 63), none, (.call (.c (.fn 98 [])) [(.t 8), (.t 61), (.t 62)])⟩]) (.seq (.ops [⟨(some 64), none, (.v (.load 5 true (.t 3)))⟩, ⟨(some 65), none, (.v (.mv (.t 14)))⟩, ⟨(some 66), none, (.call (.c (.fn 98 [])) [(.t 8), (.t 64), (.t 65)])⟩]) (.seq (.seq (.ops [⟨(some 67), none, (.v (.load 5 true (.t 8)))⟩, ⟨(some 68), none, (.call (.c (.fn 29 [])) [(.t 67)])⟩, ⟨(some 15), none, (.v (.mv (.t 68)))⟩]) (.seq (.ops [⟨(some 69), none, (.v (.mv (.t 15)))⟩, ⟨(some 70), none, (.v (.bin .neq (.t 69) (.c (.int .i64 0))))⟩]) (.cond (.t 70) (.seq (.ops [⟨(some 71), none, (.v (.build [.cap0, .cap0, .cap0, .cap0, .cap0] []))⟩, ⟨(some 72), none, (.v (.mv (.t 15)))⟩, ⟨none, none, (.e (.store 5 (.t 4) (.t 71)))⟩, ⟨(some 5), none, (.v (.mv (.t 72)))⟩]) .ret) .skip))) (.seq (.ops [⟨(some 73), none, (.v (.load 5 true (.t 8)))⟩, ⟨none, none, (.e (.store 5 (.t 4) (.t 73)))⟩, ⟨(some 5), none, (.v (.mv (.c (.int .i64 0))))⟩]) .ret)))))))))))))
def r66 : List AI := [(.load 5 true (.t 4)), (.mv (.t 5))]
theorem f66 : Fn PP 66 2 a66 r66 := Fn.of (fn := Go.Proofs.Try.f66) (by kernel_rfl) (by kernel_rfl) (by kernel_rfl)
section
variable {S : List Nat} {e sz n : Nat} {p : Nat → AV → Prop} {v : AV} {m : Mem}
theorem AccP.cell (h : AccP S e sz n p v m) : v.okv = true ∧ v.cells = [v] ∧ v.isCell = true := by
  rcases h with ⟨_, rfl⟩ | ⟨_, _, _, _, rfl, _, _⟩ <;> exact ⟨rfl, rfl, rfl⟩
theorem AccP.frz0 (h : AccP S e sz n p v m) : ∃ c v' m', Go.Ab.frz0 m v = some (c, v', m') ∧ c ∧ (∃ f, Go.Ab.wk0 v' = .fs n f ∧ ∀ j, j < n → p j (f j)) ∧ ∀ o, o ∉ S → m' o = m o := by
  obtain ⟨rfl, rfl⟩ | ⟨s, ver, g, h1, rfl, h3, h4⟩ := h
  · exact ⟨_, _, _, rfl, trivial, ⟨_, rfl, fun j hj => absurd hj (Nat.not_lt_zero _)⟩, fun _ _ => rfl⟩
  · refine ⟨True, .fs n g, Mem.set s (.dead (ver + 1)) m, by simp only [Go.Ab.frz0, h3], trivial, ⟨g, rfl, h4.1⟩, fun o ho => set_ne (fun e => by subst e; exact ho h1) _ _⟩
end
/-- Five rows of one's own let go. -/
theorem frz5 {S0 S1 S2 S3 S4 : List Nat} {e1 e2 e3 e4 z1 z2 z3 z4 n0 n1 n2 n3 n4 : Nat} {p0 p1 p2 p3 p4 : Nat → AV → Prop} {x0 x1 x2 x3 x4 : AV} {m : Mem} (h0 : ∃ c v' m', Go.Ab.frz0 m x0 = some (c, v', m') ∧ c ∧ (∃ f, Go.Ab.wk0 v' = .fs n0 f ∧ ∀ j, j < n0 → p0 j (f j)) ∧ ∀ o, o ∉ S0 → m' o = m o) (h1 : AccP S1 e1 z1 n1 p1 x1 m) (h2 : AccP S2 e2 z2 n2 p2 x2 m) (h3 : AccP S3 e3 z3 n3 p3 x3 m) (h4 : AccP S4 e4 z4 n4 p4 x4 m)
    (d : ∀ s, (s ∈ S0 → s ∉ S1 ∧ s ∉ S2 ∧ s ∉ S3 ∧ s ∉ S4) ∧ (s ∈ S1 → s ∉ S2 ∧ s ∉ S3 ∧ s ∉ S4) ∧ (s ∈ S2 → s ∉ S3 ∧ s ∉ S4) ∧ (s ∈ S3 → s ∉ S4)) :
    ∃ c r m', frzL [x0, x1, x2, x3, x4] m = some (c, r, m') ∧ c ∧ ∃ f0 f1 f2 f3 f4, r.map wk0 = [.fs n0 f0, .fs n1 f1, .fs n2 f2, .fs n3 f3, .fs n4 f4] ∧ (∀ j, j < n0 → p0 j (f0 j)) ∧ (∀ j, j < n1 → p1 j (f1 j)) ∧ (∀ j, j < n2 → p2 j (f2 j)) ∧ (∀ j, j < n3 → p3 j (f3 j)) ∧ (∀ j, j < n4 → p4 j (f4 j)) := by
  obtain ⟨c0, v0, m0, q0, k0, ⟨f0, w0, g0⟩, u0⟩ := h0
  obtain ⟨c1, v1, m1, q1, k1, ⟨f1, w1, g1⟩, u1⟩ := (h1.keep (m' := m0) fun s hs => u0 s fun h => ((d s).1 h).1 hs).frz0
  obtain ⟨c2, v2, m2, q2, k2, ⟨f2, w2, g2⟩, u2⟩ := (h2.keep (m' := m1) fun s hs => by rw [u1 s fun h => ((d s).2.1 h).1 hs, u0 s fun h => ((d s).1 h).2.1 hs]).frz0
  obtain ⟨c3, v3, m3, q3, k3, ⟨f3, w3, g3⟩, u3⟩ := (h3.keep (m' := m2) fun s hs => by rw [u2 s fun h => ((d s).2.2.1 h).1 hs, u1 s fun h => ((d s).2.1 h).2.1 hs, u0 s fun h => ((d s).1 h).2.2.1 hs]).frz0
  obtain ⟨c4, v4, m4, q4, k4, ⟨f4, w4, g4⟩, u4⟩ := (h4.keep (m' := m3) fun s hs => by rw [u3 s fun h => (d s).2.2.2 h hs, u2 s fun h => ((d s).2.2.1 h).2 hs, u1 s fun h => ((d s).2.1 h).2.2 hs, u0 s fun h => ((d s).1 h).2.2.2 hs]).frz0
  refine ⟨c0 ∧ c1 ∧ c2 ∧ c3 ∧ c4 ∧ True, [v0, v1, v2, v3, v4], m4, by simp only [frzL, q0, q1, q2, q3, q4], ⟨k0, k1, k2, k3, k4, trivial⟩, f0, f1, f2, f3, f4, ?_, g0, g1, g2, g3, g4⟩
  simp only [List.map, w0, w1, w2, w3, w4]
/-- The same five lent. -/
theorem lend5 {S1 S2 S3 S4 : List Nat} {e1 e2 e3 e4 z1 z2 z3 z4 n0 n1 n2 n3 n4 : Nat} {p0 p1 p2 p3 p4 : Nat → AV → Prop} {x0 x1 x2 x3 x4 : AV} {m : Mem} (h0 : ∃ f, Go.Ab.rs0 m x0 = (True, .fs n0 f) ∧ ∀ j, j < n0 → p0 j (f j)) (h1 : AccP S1 e1 z1 n1 p1 x1 m) (h2 : AccP S2 e2 z2 n2 p2 x2 m) (h3 : AccP S3 e3 z3 n3 p3 x3 m) (h4 : AccP S4 e4 z4 n4 p4 x4 m) :
    ∃ f0 f1 f2 f3 f4, (Go.Ab.rs0 m x0 = (True, .fs n0 f0) ∧ Go.Ab.rs0 m x1 = (True, .fs n1 f1) ∧ Go.Ab.rs0 m x2 = (True, .fs n2 f2) ∧ Go.Ab.rs0 m x3 = (True, .fs n3 f3) ∧ Go.Ab.rs0 m x4 = (True, .fs n4 f4)) ∧ (∀ j, j < n0 → p0 j (f0 j)) ∧ (∀ j, j < n1 → p1 j (f1 j)) ∧ (∀ j, j < n2 → p2 j (f2 j)) ∧ (∀ j, j < n3 → p3 j (f3 j)) ∧ (∀ j, j < n4 → p4 j (f4 j)) := by
  obtain ⟨f0, q0, g0⟩ := h0
  obtain ⟨f1, q1, g1⟩ := h1.rs0
  obtain ⟨f2, q2, g2⟩ := h2.rs0
  obtain ⟨f3, q3, g3⟩ := h3.rs0
  obtain ⟨f4, q4, g4⟩ := h4.rs0
  exact ⟨f0, f1, f2, f3, f4, ⟨q0, q1, q2, q3, q4⟩, g0, g1, g2, g3, g4⟩
noncomputable def joinRes (G H : Gra) : Gra := if joinF G H = 0 then joinG G H else nilG

/-- Copy, the row of the inputs to be written. -/
theorem p33j (b : Nat) (mem : Mem) {N : Gra} {cs : List AV} (hN : GraC cs N) (ok : N.Ok) : CallW PP 33 [.agg cs] mem fun r m => ∃ iv n1 a1 n2 a2 n3 a3 n4 a4, r = .agg [iv, .fs n1 a1, .fs n2 a2, .fs n3 a3, .fs n4 a4] ∧ Acc (b + 100) 9 1 N.ni (fun k a => a = .str (N.inn k)) iv m ∧ Keeps b mem m := by
  obtain ⟨f0, f1, f2, f3, f4, rfl, g0, g1, g2, g3, g4⟩ := hN
  have hni := ok.ni; have hno := ok.no; have hnr := ok.nr; have hna := ok.na; have hnk := ok.nk
  refine Fn.call fmix (g33 b) ?_
  unfold b33 q33
  simp -implicitDefEqProofs only [vqa, Nat.reduceEqDiff, Nat.reduceAdd, reduceIte, Nat.reduceLeDiff, Nat.reduceBEq, Nat.reduceLT, Nat.reduceSub, Int.reduceLT, Int.reduceLE, Int.reduceEq, Int.reduceToNat, Nat.reduceMul, eq_self, implies_true, forall_const]
  refine vAny [0, 1, 3, 4, 6, 7, 9, 10, 12, 13, 2, 5, 8, 11, 14, 15, 16] 17 (oneL (b + 1)) (by kernel_rfl) (by kernel_rfl) ?_
  simp -implicitDefEqProofs only [vqa, Nat.reduceEqDiff, Nat.reduceAdd, reduceIte, Nat.reduceLeDiff, Nat.reduceBEq, Nat.reduceLT, Nat.reduceSub, Int.reduceLT, Int.reduceLE, Int.reduceEq, Int.reduceToNat, Nat.reduceMul, eq_self, implies_true, forall_const]
  have rest : True := trivial
  refine CallW.own0 (b + 100) (p73s N.ni f0 (fun i hi => by rw [g0 i hi]; exact ⟨rfl, rfl⟩) hni) rfl rfl (fun hz1 => ?_) (fun e sz n g ⟨e1, e2, e3, hg1⟩ => ?_)
  · simp -implicitDefEqProofs only [vqa, Nat.reduceEqDiff, Nat.reduceAdd, reduceIte, Nat.reduceLeDiff, Nat.reduceBEq, Nat.reduceLT, Nat.reduceSub, Int.reduceLT, Int.reduceLE, Int.reduceEq, Int.reduceToNat, Nat.reduceMul, eq_self, implies_true, forall_const]
    refine CallW.fz (p73z N.no f1 (fun i hi => by rw [g1 i hi]; exact ⟨rfl, rfl⟩) hno) rfl rfl fun r ⟨a1, hr, h1⟩ => ⟨by subst hr; rfl, ?_⟩
    subst hr
    simp -implicitDefEqProofs only [vqa, Nat.reduceEqDiff, Nat.reduceAdd, reduceIte, Nat.reduceLeDiff, Nat.reduceBEq, Nat.reduceLT, Nat.reduceSub, Int.reduceLT, Int.reduceLE, Int.reduceEq, Int.reduceToNat, Nat.reduceMul, eq_self, implies_true, forall_const]
    refine CallW.fz (p81z N.nr f2 (fun i hi => by rw [g2 i hi]; exact ⟨rfl, rfl⟩) hnr) rfl rfl fun r ⟨a2, hr, h2⟩ => ⟨by subst hr; rfl, ?_⟩
    subst hr
    simp -implicitDefEqProofs only [vqa, Nat.reduceEqDiff, Nat.reduceAdd, reduceIte, Nat.reduceLeDiff, Nat.reduceBEq, Nat.reduceLT, Nat.reduceSub, Int.reduceLT, Int.reduceLE, Int.reduceEq, Int.reduceToNat, Nat.reduceMul, eq_self, implies_true, forall_const]
    refine CallW.fz (p82z N.na f3 (fun i hi => by rw [g3 i hi]; exact ⟨rfl, rfl⟩) hna) rfl rfl fun r ⟨a3, hr, h3⟩ => ⟨by subst hr; rfl, ?_⟩
    subst hr
    simp -implicitDefEqProofs only [vqa, Nat.reduceEqDiff, Nat.reduceAdd, reduceIte, Nat.reduceLeDiff, Nat.reduceBEq, Nat.reduceLT, Nat.reduceSub, Int.reduceLT, Int.reduceLE, Int.reduceEq, Int.reduceToNat, Nat.reduceMul, eq_self, implies_true, forall_const]
    refine CallW.fz (p72z N.nk f4 (fun i hi => by rw [g4 i hi]; exact ⟨rfl, rfl⟩) hnk) rfl rfl fun r ⟨a4, hr, h4⟩ => ⟨by subst hr; rfl, ?_⟩
    subst hr
    simp -implicitDefEqProofs only [vqa, Nat.reduceEqDiff, Nat.reduceAdd, reduceIte, Nat.reduceLeDiff, Nat.reduceBEq, Nat.reduceLT, Nat.reduceSub, Int.reduceLT, Int.reduceLE, Int.reduceEq, Int.reduceToNat, Nat.reduceMul, eq_self, implies_true, forall_const]
    exact ⟨_, _, _, _, _, _, _, _, _, rfl, .inl ⟨hz1, rfl⟩⟩
  · subst e1; subst e2; subst e3
    simp -implicitDefEqProofs only [vqa, Nat.reduceEqDiff, Nat.reduceAdd, reduceIte, Nat.reduceLeDiff, Nat.reduceBEq, Nat.reduceLT, Nat.reduceSub, Int.reduceLT, Int.reduceLE, Int.reduceEq, Int.reduceToNat, Nat.reduceMul, eq_self, implies_true, forall_const]
    refine CallW.fz (p73z N.no f1 (fun i hi => by rw [g1 i hi]; exact ⟨rfl, rfl⟩) hno) rfl rfl fun r ⟨a1, hr, h1⟩ => ⟨by subst hr; rfl, ?_⟩
    subst hr
    simp -implicitDefEqProofs only [vqa, Nat.reduceEqDiff, Nat.reduceAdd, reduceIte, Nat.reduceLeDiff, Nat.reduceBEq, Nat.reduceLT, Nat.reduceSub, Int.reduceLT, Int.reduceLE, Int.reduceEq, Int.reduceToNat, Nat.reduceMul, eq_self, implies_true, forall_const]
    refine CallW.fz (p81z N.nr f2 (fun i hi => by rw [g2 i hi]; exact ⟨rfl, rfl⟩) hnr) rfl rfl fun r ⟨a2, hr, h2⟩ => ⟨by subst hr; rfl, ?_⟩
    subst hr
    simp -implicitDefEqProofs only [vqa, Nat.reduceEqDiff, Nat.reduceAdd, reduceIte, Nat.reduceLeDiff, Nat.reduceBEq, Nat.reduceLT, Nat.reduceSub, Int.reduceLT, Int.reduceLE, Int.reduceEq, Int.reduceToNat, Nat.reduceMul, eq_self, implies_true, forall_const]
    refine CallW.fz (p82z N.na f3 (fun i hi => by rw [g3 i hi]; exact ⟨rfl, rfl⟩) hna) rfl rfl fun r ⟨a3, hr, h3⟩ => ⟨by subst hr; rfl, ?_⟩
    subst hr
    simp -implicitDefEqProofs only [vqa, Nat.reduceEqDiff, Nat.reduceAdd, reduceIte, Nat.reduceLeDiff, Nat.reduceBEq, Nat.reduceLT, Nat.reduceSub, Int.reduceLT, Int.reduceLE, Int.reduceEq, Int.reduceToNat, Nat.reduceMul, eq_self, implies_true, forall_const]
    refine CallW.fz (p72z N.nk f4 (fun i hi => by rw [g4 i hi]; exact ⟨rfl, rfl⟩) hnk) rfl rfl fun r ⟨a4, hr, h4⟩ => ⟨by subst hr; rfl, ?_⟩
    subst hr
    simp -implicitDefEqProofs only [vqa, Nat.reduceEqDiff, Nat.reduceAdd, reduceIte, Nat.reduceLeDiff, Nat.reduceBEq, Nat.reduceLT, Nat.reduceSub, Int.reduceLT, Int.reduceLE, Int.reduceEq, Int.reduceToNat, Nat.reduceMul, eq_self, implies_true, forall_const]
    exact ⟨_, _, _, _, _, _, _, _, _, rfl, .inr ⟨_, g, rfl, by simp only [set_at, bEq]; rfl, fun i hi => by rw [hg1 i hi, g0 i hi]⟩⟩

/-- The row of the inputs, at one of the places S. -/
def InR (S : List Nat) (T : List ByteArray) (v : AV) (m : Mem) : Prop := (T.length = 0 ∧ v = .cap0) ∨ ∃ s ver g, s ∈ S ∧ v = .sl s ver T.length ∧ m s = .row ver 9 1 T.length g ∧ ∀ k, k < T.length → g k = .str (nmA T k)
section
variable {S : List Nat} {T : List ByteArray} {v : AV} {m m' : Mem}
theorem InR.keep (h : InR S T v m) (hm : ∀ s, s ∈ S → m' s = m s) : InR S T v m' := by
  obtain h | ⟨s, ver, g, h1, h2, h3, h4⟩ := h
  · exact .inl h
  · exact .inr ⟨s, ver, g, h1, h2, (hm s h1).trans h3, h4⟩
theorem InR.put {k : Nat} {o : AO} (h : InR S T v m) (hk : k ∉ S) : InR S T v (Mem.set k o m) := h.keep fun s hs => set_ne (fun e => by subst e; exact hk hs) _ _
theorem InR.cell (h : InR S T v m) : v.okv = true ∧ v.cells = [v] ∧ v.isCell = true := by
  rcases h with ⟨_, rfl⟩ | ⟨_, _, _, _, rfl, _, _⟩ <;> exact ⟨rfl, rfl, rfl⟩
theorem InR.frz0 (h : InR S T v m) : ∃ c v' m', Go.Ab.frz0 m v = some (c, v', m') ∧ c ∧ (∃ f, Go.Ab.wk0 v' = .fs T.length f ∧ ∀ j, j < T.length → (fun j a => a = AV.str (nmA T j)) j (f j)) ∧ ∀ o, o ∉ S → m' o = m o := by
  obtain ⟨hz, rfl⟩ | ⟨s, ver, g, h1, rfl, h3, h4⟩ := h
  · exact ⟨_, _, _, rfl, trivial, ⟨_, by rw [hz]; rfl, fun j hj => absurd hj (by omega)⟩, fun _ _ => rfl⟩
  · refine ⟨True, .fs T.length g, Mem.set s (.dead (ver + 1)) m, by simp only [Go.Ab.frz0, h3], trivial, ⟨g, rfl, h4⟩, fun o ho => set_ne (fun e => by subst e; exact ho h1) _ _⟩
theorem InR.rs0 (h : InR S T v m) : ∃ f, Go.Ab.rs0 m v = (True, .fs T.length f) ∧ ∀ j, j < T.length → (fun j a => a = AV.str (nmA T j)) j (f j) := by
  obtain ⟨hz, rfl⟩ | ⟨s, ver, g, h1, rfl, h3, h4⟩ := h
  · exact ⟨_, by rw [hz]; rfl, fun j hj => absurd hj (by omega)⟩
  · exact ⟨g, by simp only [Go.Ab.rs0, h3], h4⟩
theorem InR.first {s V : Nat} {q : ByteArray} (hs : s ∈ S) (hT : T.length = 0) : InR S (T ++ [q]) (.sl s V 1) (Mem.set s (.row V 9 1 1 fun k => [AV.str q].getD k .undef) m) := by
  have hl : (T ++ [q]).length = 1 := by rw [List.length_append, hT]; rfl
  refine .inr ⟨s, V, _, hs, by rw [hl], by rw [hl]; exact set_same _ _ _, fun k hk => ?_⟩
  obtain rfl : k = 0 := by omega
  obtain rfl : T = [] := List.eq_nil_of_length_eq_zero hT
  rfl
theorem InR.push {s V : Nat} {q : ByteArray} {g : Nat → AV} (hs : s ∈ S) (hg : ∀ k, k < T.length → g k = .str (nmA T k)) : InR S (T ++ [q]) (.sl s V (T.length + 1)) (Mem.set s (.row V 9 1 (T.length + 1) fun k => bif decide (k < T.length) then g k else [AV.str q].getD (k - T.length) .undef) m) := by
  have hl : (T ++ [q]).length = T.length + 1 := by rw [List.length_append]; rfl
  refine .inr ⟨s, V, _, hs, by rw [hl], by rw [hl]; exact set_same _ _ _, fun k hk => ?_⟩
  by_cases h : k < T.length
  · simp only [h, decide_true, cond_true]; rw [hg k h, nm_app h]
  · obtain rfl : k = T.length := by omega
    simp only [h, decide_false, cond_false, Nat.sub_self, nm_new]; rfl
end
theorem seen_ins {G : Gra} {q : ByteArray} : seenB G.inn G.ni q ↔ q ∈ G.ins := by
  unfold Gra.ins
  constructor
  · rintro ⟨j, hj, rfl⟩; exact List.mem_map.2 ⟨j, List.mem_range.2 hj, rfl⟩
  · intro h
    obtain ⟨j, hj, e⟩ := List.mem_map.1 h
    exact ⟨j, List.mem_range.1 hj, e⟩
theorem joinI_old {G H : Gra} {i : Nat} (h : seenB G.inn G.ni (H.inn i)) : joinI G H (i + 1) = joinI G H i := by rw [joinI, if_pos (seen_ins.1 h)]
theorem joinI_new {G H : Gra} {i : Nat} (h : ¬ seenB G.inn G.ni (H.inn i)) : joinI G H (i + 1) = joinI G H i ++ [H.inn i] := by rw [joinI, if_neg (fun k => h (seen_ins.2 k))]
/-- Nothing but the six objects of a Join has turned. -/
def JnS (G H : Gra) (f0 f1 f2 f3 f4 h0 h1 h2 h3 h4 : Nat → AV) (V2 V3 V4 : Nat) (e : Env) (m : Mem) : Prop :=
  e 2 = .ptr 2 V2 0 ∧ m 2 = .var V2 [.fs G.ni f0, .fs G.no f1, .fs G.nr f2, .fs G.na f3, .fs G.nk f4] ∧ e 3 = .ptr 3 V3 0 ∧ m 3 = .var V3 [.fs H.ni h0, .fs H.no h1, .fs H.nr h2, .fs H.na h3, .fs H.nk h4] ∧ e 4 = .ptr 4 V4 0 ∧ m 4 = .var V4 [.cap0, .cap0, .cap0, .cap0, .cap0]

set_option maxHeartbeats 4000000 in
theorem p66 {G H : Gra} {cs ds : List AV} (hG : GraC cs G) (ok : G.Ok) (hH : GraC ds H) (kk : H.Ok) : Pure PP 66 [.agg cs, .agg ds] fun r => ∃ es, r = .tup [.agg es, .int .i64 (joinF G H)] ∧ GraC es (joinRes G H) := by
  have hG0 := hG
  have hH0 := hH
  obtain ⟨f0, f1, f2, f3, f4, rfl, g0, g1, g2, g3, g4⟩ := hG
  obtain ⟨h0, h1, h2, h3, h4, rfl, k0, k1, k2, k3, k4⟩ := hH
  refine Fn.pure fmix f66 ?_
  unfold a66 r66
  simp -implicitDefEqProofs only [vqa, Nat.reduceEqDiff, Nat.reduceAdd, reduceIte, Nat.reduceLeDiff, Nat.reduceBEq, Nat.reduceLT, Nat.reduceSub, Int.reduceLT, Int.reduceLE, Int.reduceEq, Int.reduceToNat, Nat.reduceMul, eq_self, implies_true, forall_const]
  generalize (mem0 2).ver + 1 = V2
  generalize (mem0 3).ver + 1 = V3
  generalize (mem0 4).ver + 1 = V4
  refine CallW.sc (p29 hG0 ok) rfl ⟨⟨trivial, trivial, trivial, trivial, trivial, trivial⟩, trivial⟩ fun r hr => ⟨by subst hr; rfl, ?_⟩
  subst hr
  simp -implicitDefEqProofs only [vqa, Nat.reduceEqDiff, Nat.reduceAdd, reduceIte, Nat.reduceLeDiff, Nat.reduceBEq, Nat.reduceLT, Nat.reduceSub, Int.reduceLT, Int.reduceLE, Int.reduceEq, Int.reduceToNat, Nat.reduceMul, eq_self, implies_true, forall_const]
  refine ⟨fun c1 => ?_, fun c1 => ?_⟩
  · have e : joinF G H = graphF G := by unfold joinF; rw [if_pos c1]
    rw [e, show joinRes G H = nilG by unfold joinRes; rw [if_neg (by rw [e]; exact c1)]]
    exact ⟨_, rfl, nilG_c _ _ _ _ _⟩
  have z1 : graphF G = 0 := Classical.not_not.1 c1
  refine CallW.sc (p29 hH0 kk) rfl ⟨⟨trivial, trivial, trivial, trivial, trivial, trivial⟩, trivial⟩ fun r hr => ⟨by subst hr; rfl, ?_⟩
  subst hr
  simp -implicitDefEqProofs only [vqa, Nat.reduceEqDiff, Nat.reduceAdd, reduceIte, Nat.reduceLeDiff, Nat.reduceBEq, Nat.reduceLT, Nat.reduceSub, Int.reduceLT, Int.reduceLE, Int.reduceEq, Int.reduceToNat, Nat.reduceMul, eq_self, implies_true, forall_const]
  refine ⟨fun c2 => ?_, fun c2 => ?_⟩
  · have e : joinF G H = graphF H := by unfold joinF; rw [if_neg c1, if_pos c2]
    rw [e, show joinRes G H = nilG by unfold joinRes; rw [if_neg (by rw [e]; exact c2)]]
    exact ⟨_, rfl, nilG_c _ _ _ _ _⟩
  have z2 : graphF H = 0 := Classical.not_not.1 c2
  have eF : joinF G H = graphF (joinG G H) := by unfold joinF; rw [if_neg c1, if_neg c2]
  have gd := good_of z1; have gh := good_of z2
  have b1 := gd.ni; have b2 := gd.nr; have b3 := gd.na; have b4 := gh.ni; have b5 := gh.nr; have b6 := gh.na; have b7 := gd.no; have b8 := gh.no; have b9 := gd.nk; have b10 := gh.nk
  have jok := joinG_ok z1 z2 ok kk
  refine (p33j 100 _ hG0 ok).mono fun r m ⟨iv, n1, a1, n2, a2, n3, a3, n4, a4, hr, hI, hK⟩ => ?_
  subst hr
  have iI : InR [200, 46] (joinI G H 0) iv m := by
    have hl : (joinI G H 0).length = G.ni := ins_len G
    rcases hI with ⟨hz, rfl⟩ | ⟨ver, g, rfl, hm, hg⟩
    · exact .inl ⟨by omega, rfl⟩
    · refine .inr ⟨200, ver, g, by simp, by rw [hl], by rw [hl]; exact hm, fun k hk => ?_⟩
      rw [hg k (by omega)]
      exact congrArg AV.str (joinI_at (by omega)).symm
  have hm2 := hK 2 (by omega)
  have hm3 := hK 3 (by omega)
  have hm4 := hK 4 (by omega)
  simp -implicitDefEqProofs only [vqa, Nat.reduceEqDiff, Nat.reduceAdd, reduceIte, Nat.reduceLeDiff, Nat.reduceBEq, Nat.reduceLT, Nat.reduceSub, Int.reduceLT, Int.reduceLE, Int.reduceEq, Int.reduceToNat, Nat.reduceMul, eq_self, implies_true, forall_const] at hm2 hm3 hm4
  obtain ⟨q1, q2, q3⟩ := iI.cell
  simp -implicitDefEqProofs only [vqa, Nat.reduceEqDiff, Nat.reduceAdd, reduceIte, Nat.reduceLeDiff, Nat.reduceBEq, Nat.reduceLT, Nat.reduceSub, Int.reduceLT, Int.reduceLE, Int.reduceEq, Int.reduceToNat, Nat.reduceMul, eq_self, implies_true, forall_const, hm2, hm3, hm4, q1, q2, q3]
  generalize (m 8).ver + 1 = V8
  have hS : ∀ {e : Env} {m : Mem}, e 2 = .ptr 2 V2 0 → True := fun _ => trivial
  refine vFor H.ni (fun i e m => e 2 = .ptr 2 V2 0 ∧ m 2 = .var V2 [.fs G.ni f0, .fs G.no f1, .fs G.nr f2, .fs G.na f3, .fs G.nk f4] ∧ e 3 = .ptr 3 V3 0 ∧ m 3 = .var V3 [.fs H.ni h0, .fs H.no h1, .fs H.nr h2, .fs H.na h3, .fs H.nk h4] ∧ e 4 = .ptr 4 V4 0 ∧ m 4 = .var V4 [.cap0, .cap0, .cap0, .cap0, .cap0] ∧ e 8 = .ptr 8 V8 0 ∧ e 31 = .fs H.ni h0 ∧ e 32 = .int .i64 H.ni ∧ e 33 = .int .i64 i ∧ ∃ x0, m 8 = .var V8 [x0, .fs n1 a1, .fs n2 a2, .fs n3 a3, .fs n4 a4] ∧ InR [200, 46] (joinI G H i) x0 m) ?_ ?_ ?_
  · simp -implicitDefEqProofs only [vqa, Nat.reduceEqDiff, Nat.reduceAdd, reduceIte, Nat.reduceLeDiff, Nat.reduceBEq, Nat.reduceLT, Nat.reduceSub, Int.reduceLT, Int.reduceLE, Int.reduceEq, Int.reduceToNat, Nat.reduceMul, eq_self, implies_true, forall_const, hm2, hm3, hm4, q1, q2, q3]
    exact ⟨_, rfl, (iI.put (by simp)).put (by simp)⟩
  · clear hI iI hm2 hm3 hm4 q1 q2 q3
    rintro i e m hi hi' ⟨e2, m2, e3, m3, e4, m4, e8, e31, e32, e33, x0, m8, hx⟩
    unfold a66_0
    simp -implicitDefEqProofs only [vqa, Nat.reduceEqDiff, Nat.reduceAdd, reduceIte, Nat.reduceLeDiff, Nat.reduceBEq, Nat.reduceLT, Nat.reduceSub, Int.reduceLT, Int.reduceLE, Int.reduceEq, Int.reduceToNat, Nat.reduceMul, eq_self, implies_true, forall_const, e2, m2, e3, m3, e4, m4, e8, e31, e32, e33, m8, hi', k0 i hi]
    refine ⟨by omega, ?_⟩
    refine CallW.sc (p71 G.ni G.inn f0 (H.inn i) g0 (by omega)) rfl ⟨trivial, trivial, trivial⟩ fun r ⟨b, hr, hb⟩ => ⟨by subst hr; rfl, ?_⟩
    subst hr
    have hlen := joinI_len G H i
    cases b with
    | true =>
      simp -implicitDefEqProofs only [vqa, Nat.reduceEqDiff, Nat.reduceAdd, reduceIte, Nat.reduceLeDiff, Nat.reduceBEq, Nat.reduceLT, Nat.reduceSub, Int.reduceLT, Int.reduceLE, Int.reduceEq, Int.reduceToNat, Nat.reduceMul, eq_self, implies_true, forall_const, e2, m2, e3, m3, e4, m4, e8, e31, e32, e33, m8]
      rw [joinI_old (hb.1 rfl)]
      exact ⟨hi, wI (by omega) (by omega), _, rfl, hx⟩
    | false =>
      have hns : ¬ seenB G.inn G.ni (H.inn i) := fun h => Bool.noConfusion (hb.2 h)
      have hnew := joinI_new hns
      generalize joinI G H i = T at hx hlen hnew
      obtain ⟨hz, rfl⟩ | ⟨s', ver, g, hs', rfl, hm, hg⟩ := hx
      · simp -implicitDefEqProofs only [vqa, Nat.reduceEqDiff, Nat.reduceAdd, reduceIte, Nat.reduceLeDiff, Nat.reduceBEq, Nat.reduceLT, Nat.reduceSub, Int.reduceLT, Int.reduceLE, Int.reduceEq, Int.reduceToNat, Nat.reduceMul, eq_self, implies_true, forall_const, e2, m2, e3, m3, e4, m4, e8, e31, e32, e33, m8]
        refine ⟨hi, wI (by omega) (by omega), _, rfl, ?_⟩
        rw [hnew]
        refine InR.put ?_ (by decide)
        exact InR.first (by decide) hz
      · have hs'' : s' = 200 ∨ s' = 46 := by simpa using hs'
        obtain rfl | rfl := hs''
        · simp -implicitDefEqProofs only [vqa, Nat.reduceEqDiff, Nat.reduceAdd, reduceIte, Nat.reduceLeDiff, Nat.reduceBEq, Nat.reduceLT, Nat.reduceSub, Int.reduceLT, Int.reduceLE, Int.reduceEq, Int.reduceToNat, Nat.reduceMul, eq_self, implies_true, forall_const, e2, m2, e3, m3, e4, m4, e8, e31, e32, e33, m8, hm]
          refine ⟨⟨by omega, by omega⟩, hi, wI (by omega) (by omega), _, rfl, ?_⟩
          rw [hnew]
          refine InR.put ?_ (by decide)
          exact InR.push (by decide) hg
        · simp -implicitDefEqProofs only [vqa, Nat.reduceEqDiff, Nat.reduceAdd, reduceIte, Nat.reduceLeDiff, Nat.reduceBEq, Nat.reduceLT, Nat.reduceSub, Int.reduceLT, Int.reduceLE, Int.reduceEq, Int.reduceToNat, Nat.reduceMul, eq_self, implies_true, forall_const, e2, m2, e3, m3, e4, m4, e8, e31, e32, e33, m8, hm]
          refine ⟨⟨by omega, by omega⟩, hi, wI (by omega) (by omega), _, rfl, ?_⟩
          rw [hnew]
          refine InR.put ?_ (by decide)
          exact InR.push (by decide) hg
  · clear hI iI hm2 hm3 hm4 q1 q2 q3
    rintro e m ⟨e2, m2, e3, m3, e4, m4, e8, e31, e32, e33, x0, m8, hx⟩
    have hx : InR [200, 46] (joinT G H) x0 m := hx
    have hlT := joinT_len G H
    unfold a66_0
    simp -implicitDefEqProofs only [vqa, Nat.reduceEqDiff, Nat.reduceAdd, reduceIte, Nat.reduceLeDiff, Nat.reduceBEq, Nat.reduceLT, Nat.reduceSub, Int.reduceLT, Int.reduceLE, Int.reduceEq, Int.reduceToNat, Nat.reduceMul, eq_self, implies_true, forall_const, e2, m2, e3, m3, e4, m4, e8, e31, e32, e33, m8]
    refine seq_join (fun e m => e 2 = .ptr 2 V2 0 ∧ m 2 = .var V2 [.fs G.ni f0, .fs G.no f1, .fs G.nr f2, .fs G.na f3, .fs G.nk f4] ∧ e 3 = .ptr 3 V3 0 ∧ m 3 = .var V3 [.fs H.ni h0, .fs H.no h1, .fs H.nr h2, .fs H.na h3, .fs H.nk h4] ∧ e 4 = .ptr 4 V4 0 ∧ m 4 = .var V4 [.cap0, .cap0, .cap0, .cap0, .cap0] ∧ e 8 = .ptr 8 V8 0 ∧ (∃ V11, e 11 = .ptr 11 V11 0 ∧ m 11 = .var V11 [.int .i64 ((joinT G H).length : Nat)]) ∧ (∃ V12, e 12 = .ptr 12 V12 0 ∧ m 12 = .var V12 [.int .i64 G.nr]) ∧ m 8 = .var V8 [x0, .fs n1 a1, .fs n2 a2, .fs n3 a3, .fs n4 a4] ∧ InR [200, 46] (joinT G H) x0 m) ?_ ?_
    · have hx' := hx
      obtain ⟨hz, rfl⟩ | ⟨s', ver, g, hs', rfl, hm, hg⟩ := hx
      · refine vAnyT [0, 1, 2, 3, 4, 5] (.fork (.step 6 (.step 7 (.step 8 (.step 9 .leaf)))) (.step 7 (.step 6 (.step 8 (.step 9 .leaf))))) (fun m' => m' 2 = .var V2 [.fs G.ni f0, .fs G.no f1, .fs G.nr f2, .fs G.na f3, .fs G.nk f4] ∧ m' 8 = .var V8 [.cap0, .fs n1 a1, .fs n2 a2, .fs n3 a3, .fs n4 a4]) (by kernel_rfl) (by kernel_rfl) ⟨m2, m8⟩ ?_
        simp -implicitDefEqProofs only [vqa, Nat.reduceEqDiff, Nat.reduceAdd, reduceIte, Nat.reduceLeDiff, Nat.reduceBEq, Nat.reduceLT, Nat.reduceSub, Int.reduceLT, Int.reduceLE, Int.reduceEq, Int.reduceToNat, Nat.reduceMul, eq_self, implies_true, forall_const, vqt, e2, m2, e3, m3, e4, m4, e8, e31, e32, e33, m8]
        refine ⟨?_, ?_, ?_, ?_, ?_, ?_, ⟨⟨_, rfl, by rw [hz]; rfl⟩, ⟨_, rfl, rfl⟩, ?_⟩, ⟨_, rfl, by rw [hz]; rfl⟩, ⟨_, rfl, rfl⟩, ?_⟩
        rotate_right 2
        · repeat (first | exact hx' | refine InR.put ?_ (by decide))
        · repeat (first | exact hx' | refine InR.put ?_ (by decide))
        all_goals (intro m' hm'; first | (rw [hm'.1]; exact ⟨_, rfl, rfl⟩) | (rw [hm'.2.1]; exact ⟨_, rfl, rfl⟩) | (rw [hm'.2]; exact ⟨_, rfl, rfl⟩) | (rw [hm'.2.2]; exact ⟨_, rfl, rfl⟩) | exact ⟨_, rfl, trivial⟩)
      · have hs'' : s' = 200 ∨ s' = 46 := by simpa using hs'
        obtain rfl | rfl := hs''
        · skip
          refine vAnyT [0, 1, 2, 3, 4, 5] (.fork (.step 6 (.step 7 (.step 8 (.step 9 .leaf)))) (.step 7 (.step 6 (.step 8 (.step 9 .leaf))))) (fun m' => m' 2 = .var V2 [.fs G.ni f0, .fs G.no f1, .fs G.nr f2, .fs G.na f3, .fs G.nk f4] ∧ m' 8 = .var V8 [.sl 200 ver (joinT G H).length, .fs n1 a1, .fs n2 a2, .fs n3 a3, .fs n4 a4] ∧ m' 200 = .row ver 9 1 (joinT G H).length g) (by kernel_rfl) (by kernel_rfl) ⟨m2, m8, hm⟩ ?_
          simp -implicitDefEqProofs only [vqa, Nat.reduceEqDiff, Nat.reduceAdd, reduceIte, Nat.reduceLeDiff, Nat.reduceBEq, Nat.reduceLT, Nat.reduceSub, Int.reduceLT, Int.reduceLE, Int.reduceEq, Int.reduceToNat, Nat.reduceMul, eq_self, implies_true, forall_const, vqt, e2, m2, e3, m3, e4, m4, e8, e31, e32, e33, m8, hm]
          refine ⟨?_, ?_, ?_, ?_, ?_, ?_, ⟨⟨_, rfl, by rfl⟩, ⟨_, rfl, rfl⟩, ?_⟩, ⟨_, rfl, by rfl⟩, ⟨_, rfl, rfl⟩, ?_⟩
          rotate_right 2
          · repeat (first | exact hx' | refine InR.put ?_ (by decide))
          · repeat (first | exact hx' | refine InR.put ?_ (by decide))
          all_goals (intro m' hm'; first | (rw [hm'.1]; exact ⟨_, rfl, rfl⟩) | (rw [hm'.2.1]; exact ⟨_, rfl, rfl⟩) | (rw [hm'.2]; exact ⟨_, rfl, rfl⟩) | (rw [hm'.2.2]; exact ⟨_, rfl, rfl⟩) | exact ⟨_, rfl, trivial⟩)
        · skip
          refine vAnyT [0, 1, 2, 3, 4, 5] (.fork (.step 6 (.step 7 (.step 8 (.step 9 .leaf)))) (.step 7 (.step 6 (.step 8 (.step 9 .leaf))))) (fun m' => m' 2 = .var V2 [.fs G.ni f0, .fs G.no f1, .fs G.nr f2, .fs G.na f3, .fs G.nk f4] ∧ m' 8 = .var V8 [.sl 46 ver (joinT G H).length, .fs n1 a1, .fs n2 a2, .fs n3 a3, .fs n4 a4] ∧ m' 46 = .row ver 9 1 (joinT G H).length g) (by kernel_rfl) (by kernel_rfl) ⟨m2, m8, hm⟩ ?_
          simp -implicitDefEqProofs only [vqa, Nat.reduceEqDiff, Nat.reduceAdd, reduceIte, Nat.reduceLeDiff, Nat.reduceBEq, Nat.reduceLT, Nat.reduceSub, Int.reduceLT, Int.reduceLE, Int.reduceEq, Int.reduceToNat, Nat.reduceMul, eq_self, implies_true, forall_const, vqt, e2, m2, e3, m3, e4, m4, e8, e31, e32, e33, m8, hm]
          refine ⟨?_, ?_, ?_, ?_, ?_, ?_, ⟨⟨_, rfl, by rfl⟩, ⟨_, rfl, rfl⟩, ?_⟩, ⟨_, rfl, by rfl⟩, ⟨_, rfl, rfl⟩, ?_⟩
          rotate_right 2
          · repeat (first | exact hx' | refine InR.put ?_ (by decide))
          · repeat (first | exact hx' | refine InR.put ?_ (by decide))
          all_goals (intro m' hm'; first | (rw [hm'.1]; exact ⟨_, rfl, rfl⟩) | (rw [hm'.2.1]; exact ⟨_, rfl, rfl⟩) | (rw [hm'.2]; exact ⟨_, rfl, rfl⟩) | (rw [hm'.2.2]; exact ⟨_, rfl, rfl⟩) | exact ⟨_, rfl, trivial⟩)
    · skip
      rintro e m ⟨e2, m2, e3, m3, e4, m4, e8, ⟨V11, e11, m11⟩, ⟨V12, e12, m12⟩, m8, hx⟩
      obtain ⟨q1, q2, q3⟩ := hx.cell
      simp -implicitDefEqProofs only [vqa, Nat.reduceEqDiff, Nat.reduceAdd, reduceIte, Nat.reduceLeDiff, Nat.reduceBEq, Nat.reduceLT, Nat.reduceSub, Int.reduceLT, Int.reduceLE, Int.reduceEq, Int.reduceToNat, Nat.reduceMul, eq_self, implies_true, forall_const, e2, m2, e3, m3, e4, m4, e8, e11, m11, e12, m12, m8, q1, q2, q3]
      have hJ : ∀ j, (j = 2 ∨ j = 3 ∨ j = 11 ∨ j = 12 ∨ j ∈ [200, 46]) → j < 1000 ∧ j ≠ 8 := fun j hj => by
        simp only [List.mem_cons, List.not_mem_nil, or_false] at hj; omega
      have oG : ∀ i, i < G.nodes → toG G H i ≤ 1000000 := fun i hi => by
        have := jN_le (T := joinT G H) (c := G.nr + H.nr) (r := 0) (x := 0) (i := i) gd (by omega) (by omega) (by omega) (by omega) (by omega)
        unfold toG; omega
      have oH : ∀ i, i < H.nodes → toH G H i ≤ 1000000 := fun i hi => by
        have := jN_le (T := joinT G H) (c := G.nr + H.nr) (r := G.nr) (x := G.na) (i := i) gh (by omega) (by omega) (by omega) (by omega) (by omega)
        unfold toH; omega
      refine CallW.mono (p98a hG0 ok gd (T := toG G H) (J := fun j => j = 2 ∨ j = 3 ∨ j = 11 ∨ j = 12 ∨ j ∈ [200, 46]) (x0 := x0) (p1 := fun k a => a = .str ((joinG G H).out k)) (p2 := fun k a => a = ((joinG G H).reg k).av) (p3 := fun k a => a = .agg [.int .i64 ((joinG G H).A k), .int .i64 ((joinG G H).B k)]) (p4 := fun k a => a = .int .i64 ((joinG G H).outs k)) (n1 := 0) (n2 := 0) (n3 := 0) (n4 := 0) ?hv hJ oG ?hA (by decide) (by decide) (by decide) (by decide) ?q1 ?q2 ?q3 ?q4) fun r mA ⟨hr, hA, hF⟩ => ?_
      case hv =>
        exact ⟨95, _, rfl, fun mem ⟨⟨y1, y2, y3, y4, h8⟩, hj⟩ i hi => p95 hG0 ok hH0 kk ((hj 2 (.inl rfl)).trans m2) ((hj 3 (.inr (.inl rfl))).trans m3) z1 z2 ((hj 11 (.inr (.inr (.inl rfl)))).trans m11) ((hj 12 (.inr (.inr (.inr (.inl rfl))))).trans m12) i hi⟩
      case hA => exact ⟨_, _, _, _, rfl, .inl ⟨rfl, rfl⟩, .inl ⟨rfl, rfl⟩, .inl ⟨rfl, rfl⟩, .inl ⟨rfl, rfl⟩⟩
      case q1 => exact fun i hi => by show _ = AV.str (if 0 + i < G.no then _ else _); rw [Nat.zero_add, if_pos hi]
      case q2 => exact fun i hi => by show _ = RegV.av (if 0 + i < G.nr then _ else _); rw [Nat.zero_add, if_pos hi]; rfl
      case q3 => exact fun i hi => by show _ = AV.agg [.int .i64 (if 0 + i < G.na then _ else _), .int .i64 (if 0 + i < G.na then _ else _)]; rw [Nat.zero_add, if_pos hi, if_pos hi]
      case q4 => exact fun i hi => by show _ = AV.int .i64 (if 0 + i < G.nk then _ else _); rw [Nat.zero_add, if_pos hi]
      subst hr
      have mA2 := (hF 2 (by decide) (by decide)).trans m2
      have mA3 := (hF 3 (by decide) (by decide)).trans m3
      have mA4 := (hF 4 (by decide) (by decide)).trans m4
      have mA11 := (hF 11 (by decide) (by decide)).trans m11
      have mA12 := (hF 12 (by decide) (by decide)).trans m12
      have hxA : InR [200, 46] (joinT G H) x0 mA := by
        refine InR.keep ?_ (fun s hs => hF s (hJ s (.inr (.inr (.inr (.inr hs))))).1 (hJ s (.inr (.inr (.inr (.inr hs))))).2)
        repeat (first | exact hx | refine InR.put ?_ (by decide))
      have hA' := hA
      obtain ⟨w1, w2, w3, w4, mA8, A1, A2, A3, A4⟩ := hA
      simp -implicitDefEqProofs only [vqa, Nat.reduceEqDiff, Nat.reduceAdd, reduceIte, Nat.reduceLeDiff, Nat.reduceBEq, Nat.reduceLT, Nat.reduceSub, Int.reduceLT, Int.reduceLE, Int.reduceEq, Int.reduceToNat, Nat.reduceMul, eq_self, implies_true, forall_const, e2, mA2, e3, mA3, e4, mA4, e8, e11, mA11, e12, mA12, mA8]
      refine CallW.mono (p98b hH0 kk gh (T := toH G H) (J := fun j => j = 2 ∨ j = 3 ∨ j = 11 ∨ j = 12 ∨ j ∈ [200, 46]) (x0 := x0) (p1 := fun k a => a = .str ((joinG G H).out k)) (p2 := fun k a => a = ((joinG G H).reg k).av) (p3 := fun k a => a = .agg [.int .i64 ((joinG G H).A k), .int .i64 ((joinG G H).B k)]) (p4 := fun k a => a = .int .i64 ((joinG G H).outs k)) (n1 := G.no) (n2 := G.nr) (n3 := G.na) (n4 := G.nk) ?hv hJ oH ?hA (by omega) (by omega) (by omega) (by omega) ?q1 ?q2 ?q3 ?q4) fun r mB ⟨hr, hB, hF2⟩ => ?_
      case hv =>
        refine ⟨96, _, rfl, fun mem ⟨⟨y1, y2, y3, y4, h8⟩, hj⟩ i hi => ?_⟩
        have hxm : InR [200, 46] (joinT G H) x0 mem := hxA.keep fun s hs => hj s (.inr (.inr (.inr (.inr hs))))
        have mm2 := (hj 2 (.inl rfl)).trans mA2
        have mm3 := (hj 3 (.inr (.inl rfl))).trans mA3
        have mm11 := (hj 11 (.inr (.inr (.inl rfl)))).trans mA11
        have mm12 := (hj 12 (.inr (.inr (.inr (.inl rfl))))).trans mA12
        obtain ⟨hz, hx0⟩ | ⟨s', ver, g, hs', hx0, hm, hg⟩ := hxm
        · exact p96 (id := 0) (ver := 0) (nm := fun _ => .undef) hH0 kk z1 z2 mm2 mm3 h8 mm11 mm12 (.inl ⟨hz, hx0⟩) i hi
        · exact p96 hH0 kk z1 z2 mm2 mm3 h8 mm11 mm12 (.inr ⟨hx0, hm, hg⟩) i hi
      case hA => exact ⟨_, _, _, _, mA8, (A1.sub (by simp)).to2 (by omega), (A2.sub (by simp)).to2 (by omega), (A3.sub (by simp)).to2 (by omega), (A4.sub (by simp)).to2 (by omega)⟩
      case q1 => exact fun i hi => by show _ = AV.str (if G.no + i < G.no then _ else _); rw [if_neg (by omega), Nat.add_sub_cancel_left]
      case q2 => exact fun i hi => by show _ = RegV.av (if G.nr + i < G.nr then _ else _); rw [if_neg (by omega), Nat.add_sub_cancel_left]; rfl
      case q3 => exact fun i hi => by show _ = AV.agg [.int .i64 (if G.na + i < G.na then _ else _), .int .i64 (if G.na + i < G.na then _ else _)]; rw [if_neg (by omega), if_neg (by omega), Nat.add_sub_cancel_left]
      case q4 => exact fun i hi => by show _ = AV.int .i64 (if G.nk + i < G.nk then _ else _); rw [if_neg (by omega), Nat.add_sub_cancel_left]
      subst hr
      have mB4 := (hF2 4 (by decide) (by decide)).trans mA4
      have hxB : InR [200, 46] (joinT G H) x0 mB := hxA.keep fun s hs => hF2 s (hJ s (.inr (.inr (.inr (.inr hs))))).1 (hJ s (.inr (.inr (.inr (.inr hs))))).2
      obtain ⟨y1, y2, y3, y4, mB8, B1, B2, B3, B4⟩ := hB
      clear mA2 mA3 mA4 mA11 mA12 A1 A2 A3 A4 hA' hxA
      simp -implicitDefEqProofs only [vqa, Nat.reduceEqDiff, Nat.reduceAdd, reduceIte, Nat.reduceLeDiff, Nat.reduceBEq, Nat.reduceLT, Nat.reduceSub, Int.reduceLT, Int.reduceLE, Int.reduceEq, Int.reduceToNat, Nat.reduceMul, eq_self, implies_true, forall_const, e2, e3, e4, mB4, e8, e11, e12, mB8]
      obtain ⟨u0, u1, u2, u3, u4, ⟨r0, r1, r2, r3, r4⟩, l0, l1, l2, l3, l4⟩ := lend5 (p0 := fun j a => a = AV.str (nmA (joinT G H) j)) hxB.rs0 B1 B2 B3 B4
      have hD : GraC [.fs (joinT G H).length u0, .fs (G.no + H.no) u1, .fs (G.nr + H.nr) u2, .fs (G.na + H.na) u3, .fs (G.nk + H.nk) u4] (joinG G H) := ⟨u0, u1, u2, u3, u4, rfl, l0, l1, l2, l3, l4⟩
      refine CallW.sc (p29 hD jok) ?_ ?_ fun r hr => ⟨by subst hr; rfl, ?_⟩
      · simp only [rsC, rs2, r0, r1, r2, r3, r4]
      · simp only [rsC, rs2, r0, r1, r2, r3, r4]; exact ⟨⟨trivial, trivial, trivial, trivial, trivial, trivial⟩, trivial⟩
      subst hr
      obtain ⟨t01, t02, t03⟩ := hxB.cell
      obtain ⟨t11, t12, t13⟩ := B1.cell
      obtain ⟨t21, t22, t23⟩ := B2.cell
      obtain ⟨t31, t32, t33⟩ := B3.cell
      obtain ⟨t41, t42, t43⟩ := B4.cell
      simp -implicitDefEqProofs only [vqa, Nat.reduceEqDiff, Nat.reduceAdd, reduceIte, Nat.reduceLeDiff, Nat.reduceBEq, Nat.reduceLT, Nat.reduceSub, Int.reduceLT, Int.reduceLE, Int.reduceEq, Int.reduceToNat, Nat.reduceMul, eq_self, implies_true, forall_const, e2, e3, e4, mB4, e8, e11, e12, mB8, t01, t02, t03, t11, t12, t13, t21, t22, t23, t31, t32, t33, t41, t42, t43]
      refine ⟨fun hne => ?_, fun hne => ?_⟩
      · rw [eF, show joinRes G H = nilG by unfold joinRes; rw [if_neg (by rw [eF]; exact hne)]]
        exact ⟨_, rfl, nilG_c _ _ _ _ _⟩
      · have hz : joinF G H = 0 := by rw [eF]; exact Classical.not_not.1 hne
        have hxC : InR [200, 46] (joinT G H) x0 (Mem.set 4 (AO.var V4 [x0, y1, y2, y3, y4]) mB) := hxB.put (by decide)
        obtain ⟨c, rr, m', hq, hc, v0, v1, v2, v3, v4, hw, l0, l1, l2, l3, l4⟩ := frz5 (p0 := fun j a => a = AV.str (nmA (joinT G H) j)) hxC.frz0 (B1.put (o := AO.var V4 [x0, y1, y2, y3, y4]) (t := 4) (by decide)) (B2.put (by decide)) (B3.put (by decide)) (B4.put (by decide)) (fun s => by simp only [List.mem_cons, List.not_mem_nil, or_false]; omega)
        simp -implicitDefEqProofs only [vqa, Nat.reduceEqDiff, Nat.reduceAdd, reduceIte, Nat.reduceLeDiff, Nat.reduceBEq, Nat.reduceLT, Nat.reduceSub, Int.reduceLT, Int.reduceLE, Int.reduceEq, Int.reduceToNat, Nat.reduceMul, eq_self, implies_true, forall_const] at hq
        rw [hq]
        simp -implicitDefEqProofs only [vqa, Nat.reduceEqDiff, Nat.reduceAdd, reduceIte, Nat.reduceLeDiff, Nat.reduceBEq, Nat.reduceLT, Nat.reduceSub, Int.reduceLT, Int.reduceLE, Int.reduceEq, Int.reduceToNat, Nat.reduceMul, eq_self, implies_true, forall_const, hw, hz]
        exact ⟨hc, _, rfl, by rw [show joinRes G H = joinG G H by unfold joinRes; rw [if_pos hz]]; exact ⟨v0, v1, v2, v3, v4, rfl, l0, l1, l2, l3, l4⟩⟩
end Go.Ab
