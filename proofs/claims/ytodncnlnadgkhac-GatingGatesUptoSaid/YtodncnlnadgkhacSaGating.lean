/- The law GatingGates. -/
import Derived.Test.YtodncnlnadgkhacSaGate3
import Derived.Test.YtodncnlnadgkhacSaWith3
import Derived.Test.YtodncnlnadgkhacSaNCleanL
import Derived.Test.YtodncnlnadgkhacFwTr
set_option linter.unusedSimpArgs false
set_option linter.unusedVariables false
namespace Go.Ab
open Go
def a5_0 : AC := (.seq (.ops [⟨(some 25), none, (.v (.bin .lss (.t 24) (.t 23)))⟩]) (.seq (.cond (.t 25) .skip (.exit 0)) (.seq (.block 1 (.seq (.ops [⟨(some 26), none, (.v (.mv (.t 24)))⟩, ⟨(some 27), none, (.v (.idx 3 (.t 22) (.t 24)))⟩, ⟨(some 28), none, (.v (.load 3 true (.t 27)))⟩, ⟨(some 10), none, (.e (.alloc 10 [(.str ⟨#[]⟩), (.int .i64 0), (.bool false)]))⟩, ⟨(some 9), none, (.v (.mv (.t 26)))⟩, ⟨none, none, (.e (.store 3 (.t 10) (.t 28)))⟩]) (.seq (.ops [⟨(some 29), none, (.v (.load 5 true (.t 1)))⟩, ⟨(some 30), none, (.v (.fld 1 (.t 10)))⟩, ⟨(some 31), none, (.v (.load 1 false (.t 30)))⟩, ⟨(some 32), none, (.v (.fld 0 (.t 1)))⟩, ⟨(some 33), none, (.v (.load 1 false (.t 32)))⟩, ⟨(some 34), none, (.v (.len (.t 33)))⟩, ⟨(some 35), none, (.v (.bin .add (.c (.int .i64 1)) (.t 34)))⟩, ⟨(some 36), none, (.v (.mv (.t 9)))⟩, ⟨(some 37), none, (.v (.bin .add (.t 35) (.t 36)))⟩, ⟨(some 38), none, (.v (.bin .mul (.c (.int .i64 2)) (.t 37)))⟩, ⟨(some 39), none, (.call (.c (.fn 33 [])) [(.t 29), (.t 31), (.t 38)])⟩, ⟨(some 11), none, (.e (.alloc 11 [(.int .i64 0), (.int .i64 0)]))⟩, ⟨none, none, (.e (.store 2 (.t 11) (.t 39)))⟩]) (.any [⟨(some 40), none, (.v (.mv (.t 7)))⟩, ⟨(some 41), none, (.v (.fld 1 (.t 11)))⟩, ⟨(some 42), none, (.v (.load 1 false (.t 41)))⟩, ⟨(some 43), none, (.e (.lit 43 35 1 1 [(.int .i64 0)] [(0, (.t 42))]))⟩, ⟨(some 44), none, (.e (.app 44 35 1 8 (.t 40) (.t 43)))⟩, ⟨(some 45), none, (.v (.mv (.t 8)))⟩, ⟨(some 46), none, (.v (.fld 0 (.t 11)))⟩, ⟨(some 47), none, (.v (.load 1 false (.t 46)))⟩, ⟨(some 48), none, (.e (.lit 48 35 1 1 [(.int .i64 0)] [(0, (.t 47))]))⟩, ⟨(some 49), none, (.e (.app 49 35 1 8 (.t 45) (.t 48)))⟩, ⟨(some 7), none, (.v (.mv (.t 44)))⟩, ⟨(some 8), none, (.v (.mv (.t 49)))⟩] [[], [], [1], [2], [0, 3], [], [], [6], [7], [5, 8, 4], [4, 9, 0, 1, 2, 3, 4], [9, 10, 0, 1, 2, 3, 4, 5, 6, 7, 8, 9, 10]])))) (.ops [⟨(some 50), none, (.v (.bin .add (.t 24) (.c (.int .i64 1))))⟩, ⟨(some 24), none, (.v (.mv (.t 50)))⟩]))))
def a5 : AC := (.seq (.ops [⟨(some 1), none, (.e (.box 1 0 (.t 0)))⟩, ⟨(some 2), none, (.v (.mv (.c (.bool false))))⟩]) (.seq (.ops [⟨(some 13), none, (.v (.load 5 true (.t 1)))⟩, ⟨(some 14), none, (.call (.c (.fn 32 [])) [(.t 13)])⟩, ⟨(some 12), none, (.v (.mv (.t 14)))⟩, ⟨(some 15), none, (.v (.ext 0 (.t 12)))⟩, ⟨(some 16), none, (.v (.ext 1 (.t 12)))⟩, ⟨(some 3), none, (.e (.alloc 3 [.cap0, .cap0, .cap0, .cap0, .cap0]))⟩, ⟨none, none, (.e (.store 5 (.t 3) (.t 15)))⟩, ⟨(some 4), none, (.v (.mv (.t 16)))⟩]) (.seq (.ops [⟨(some 17), none, (.v (.load 5 true (.t 1)))⟩, ⟨(some 18), none, (.call (.c (.fn 16 [])) [(.t 17)])⟩, ⟨(some 5), none, (.v (.mv (.t 18)))⟩]) (.seq (.ops [⟨(some 6), none, (.e (.alloc 6 [.cap0, .cap0, .cap0, .cap0, .cap0]))⟩]) (.seq (.seq (.ops [⟨(some 19), none, (.v (.mv (.t 5)))⟩, ⟨(some 20), none, (.v (.bin .eql (.t 19) (.c (.int .i64 0))))⟩]) (.cond (.t 20) (.seq (.ops [⟨(some 7), none, (.v (.mv (.c .cap0)))⟩, ⟨(some 8), none, (.v (.mv (.c .cap0)))⟩]) (.seq (.seq (.ops [⟨(some 21), none, (.v (.fld 2 (.t 1)))⟩, ⟨(some 22), none, (.v (.load 1 false (.t 21)))⟩, ⟨(some 23), none, (.v (.len (.t 22)))⟩, ⟨(some 24), none, (.v (.mv (.c (.int .i64 0))))⟩]) (.block 0 (.loop a5_0))) (.seq (.ops [⟨(some 51), none, (.v (.load 5 true (.t 1)))⟩, ⟨(some 52), none, (.v (.mv (.t 7)))⟩, ⟨(some 53), none, (.v (.mv (.t 8)))⟩, ⟨(some 54), none, (.call (.c (.fn 34 [])) [(.t 51), (.t 52), (.t 53)])⟩, ⟨none, none, (.e (.store 5 (.t 6) (.t 54)))⟩]) (.seq (.ops [⟨(some 55), none, (.v (.load 5 true (.t 6)))⟩, ⟨(some 56), none, (.call (.c (.fn 35 [])) [(.t 55)])⟩, ⟨(some 5), none, (.v (.mv (.t 56)))⟩]) (.seq (.ops [⟨(some 57), none, (.v (.mv (.t 5)))⟩, ⟨(some 58), none, (.v (.bin .eql (.t 57) (.c (.int .i64 0))))⟩]) (.cond (.t 58) (.ops [⟨(some 60), none, (.v (.load 5 true (.t 6)))⟩, ⟨(some 61), none, (.call (.c (.fn 36 [])) [(.t 60)])⟩, ⟨(some 59), none, (.v (.mv (.t 61)))⟩, ⟨(some 62), none, (.v (.ext 0 (.t 59)))⟩, ⟨(some 63), none, (.v (.ext 1 (.t 59)))⟩, ⟨none, none, (.e (.store 5 (.t 6) (.t 62)))⟩]) (.ops [⟨(some 64), none, (.v (.build [.cap0, .cap0, .cap0, .cap0, .cap0] []))⟩, ⟨none, none, (.e (.store 5 (.t 6) (.t 64)))⟩]))))))) .skip)) (.seq (.ops [⟨(some 65), none, (.call (.c (.fn 37 [])) [])⟩, ⟨(some 66), none, (.v (.mv (.t 65)))⟩, ⟨(some 67), (some (66, true)), (.v (.mv (.t 4)))⟩, ⟨(some 68), (some (66, true)), (.v (.mv (.t 5)))⟩, ⟨(some 69), (some (66, true)), (.v (.bin .eql (.t 67) (.t 68)))⟩, ⟨(some 70), none, (.v (.pick (.t 66) (.t 69) (.c (.bool false))))⟩, ⟨(some 71), none, (.v (.mv (.t 70)))⟩, ⟨(some 72), (some (71, true)), (.v (.load 5 true (.t 3)))⟩, ⟨(some 73), (some (71, true)), (.v (.load 5 true (.t 6)))⟩, ⟨(some 74), (some (71, true)), (.call (.c (.fn 38 [])) [(.t 72), (.t 73)])⟩, ⟨(some 75), none, (.v (.pick (.t 71) (.t 74) (.c (.bool false))))⟩, ⟨(some 2), none, (.v (.mv (.t 75)))⟩]) .ret))))))
def r5 : List AI := [(.mv (.t 2))]
theorem f5 : Fn PP 5 1 a5 r5 := Fn.of (fn := Go.Proofs.Try.f5) (by kernel_rfl) (by kernel_rfl) (by kernel_rfl)
def a32_0 : AC := (.seq (.ops [⟨(some 23), none, (.v (.bin .lss (.t 22) (.t 21)))⟩]) (.seq (.cond (.t 23) .skip (.exit 0)) (.seq (.block 1 (.seq (.ops [⟨(some 24), none, (.v (.idx 2 (.t 20) (.t 22)))⟩, ⟨(some 25), none, (.v (.load 2 true (.t 24)))⟩, ⟨(some 9), none, (.e (.alloc 9 [(.int .i64 0), (.int .i64 0)]))⟩, ⟨none, none, (.e (.store 2 (.t 9) (.t 25)))⟩]) (.any [⟨(some 26), none, (.v (.mv (.t 6)))⟩, ⟨(some 27), none, (.v (.fld 1 (.t 9)))⟩, ⟨(some 28), none, (.v (.load 1 false (.t 27)))⟩, ⟨(some 29), none, (.e (.lit 29 35 1 1 [(.int .i64 0)] [(0, (.t 28))]))⟩, ⟨(some 30), none, (.e (.app 30 35 1 8 (.t 26) (.t 29)))⟩, ⟨(some 31), none, (.v (.mv (.t 7)))⟩, ⟨(some 32), none, (.v (.fld 0 (.t 9)))⟩, ⟨(some 33), none, (.v (.load 1 false (.t 32)))⟩, ⟨(some 34), none, (.e (.lit 34 35 1 1 [(.int .i64 0)] [(0, (.t 33))]))⟩, ⟨(some 35), none, (.e (.app 35 35 1 8 (.t 31) (.t 34)))⟩, ⟨(some 6), none, (.v (.mv (.t 30)))⟩, ⟨(some 7), none, (.v (.mv (.t 35)))⟩] [[], [], [1], [2], [0, 3], [], [], [6], [7], [5, 8, 4], [4, 9, 0, 1, 2, 3, 4], [9, 10, 0, 1, 2, 3, 4, 5, 6, 7, 8, 9, 10]]))) (.ops [⟨(some 36), none, (.v (.bin .add (.t 22) (.c (.int .i64 1))))⟩, ⟨(some 22), none, (.v (.mv (.t 36)))⟩]))))
def a32 : AC := (.seq (.ops [⟨(some 1), none, (.e (.box 1 0 (.t 0)))⟩, ⟨(some 2), none, (.e (.alloc 2 [.cap0, .cap0, .cap0, .cap0, .cap0]))⟩, ⟨(some 3), none, (.v (.mv (.c (.int .i64 0))))⟩]) (.seq (.ops [⟨(some 12), none, (.v (.load 5 true (.t 1)))⟩, ⟨(some 13), none, (.call (.c (.fn 63 [])) [(.t 12)])⟩, ⟨(some 11), none, (.v (.mv (.t 13)))⟩, ⟨(some 14), none, (.v (.ext 0 (.t 11)))⟩, ⟨(some 15), none, (.v (.ext 1 (.t 11)))⟩, ⟨(some 4), none, (.v (.mv (.t 14)))⟩, ⟨(some 5), none, (.v (.mv (.t 15)))⟩]) (.seq (.seq (.ops [⟨(some 16), none, (.v (.mv (.t 5)))⟩, ⟨(some 17), none, (.v (.bin .neq (.t 16) (.c (.int .i64 0))))⟩]) (.cond (.t 17) (.seq (.ops [⟨(some 18), none, (.v (.build [.cap0, .cap0, .cap0, .cap0, .cap0] []))⟩, ⟨(some 19), none, (.v (.mv (.t 5)))⟩, ⟨none, none, (.e (.store 5 (.t 2) (.t 18)))⟩, ⟨(some 3), none, (.v (.mv (.t 19)))⟩]) .ret) .skip)) (.seq (.ops [⟨(some 6), none, (.v (.mv (.c .cap0)))⟩, ⟨(some 7), none, (.v (.mv (.c .cap0)))⟩]) (.seq (.seq (.ops [⟨(some 20), none, (.v (.mv (.t 4)))⟩, ⟨(some 21), none, (.v (.len (.t 20)))⟩, ⟨(some 22), none, (.v (.mv (.c (.int .i64 0))))⟩]) (.block 0 (.loop a32_0))) (.seq (.ops [⟨(some 38), none, (.v (.load 5 true (.t 1)))⟩, ⟨(some 39), none, (.v (.mv (.t 6)))⟩, ⟨(some 40), none, (.v (.mv (.t 7)))⟩, ⟨(some 41), none, (.call (.c (.fn 64 [])) [(.t 38), (.t 39), (.t 40)])⟩, ⟨(some 37), none, (.v (.mv (.t 41)))⟩, ⟨(some 42), none, (.v (.ext 0 (.t 37)))⟩, ⟨(some 43), none, (.v (.ext 1 (.t 37)))⟩, ⟨(some 10), none, (.e (.alloc 10 [.cap0, .cap0, .cap0, .cap0, .cap0]))⟩, ⟨none, none, (.e (.store 5 (.t 10) (.t 42)))⟩, ⟨(some 5), none, (.v (.mv (.t 43)))⟩]) (.seq (.seq (.ops [⟨(some 44), none, (.v (.mv (.t 5)))⟩, ⟨(some 45), none, (.v (.bin .neq (.t 44) (.c (.int .i64 0))))⟩]) (.cond (.t 45) (.seq (.ops [⟨(some 46), none, (.v (.build [.cap0, .cap0, .cap0, .cap0, .cap0] []))⟩, ⟨(some 47), none, (.v (.mv (.t 5)))⟩, ⟨none, none, (.e (.store 5 (.t 2) (.t 46)))⟩, ⟨(some 3), none, (.v (.mv (.t 47)))⟩]) .ret) .skip)) (.seq (.ops [⟨(some 49), none, (.v (.load 5 true (.t 10)))⟩, ⟨(some 50), none, (.call (.c (.fn 65 [])) [(.t 49)])⟩, ⟨(some 48), none, (.v (.mv (.t 50)))⟩, ⟨(some 51), none, (.v (.ext 0 (.t 48)))⟩, ⟨(some 52), none, (.v (.ext 1 (.t 48)))⟩, ⟨(some 53), none, (.v (.ext 2 (.t 48)))⟩, ⟨none, none, (.e (.store 5 (.t 10) (.t 51)))⟩, ⟨(some 5), none, (.v (.mv (.t 53)))⟩]) (.seq (.ops [⟨(some 54), none, (.v (.load 5 true (.t 10)))⟩, ⟨(some 55), none, (.v (.mv (.t 5)))⟩, ⟨none, none, (.e (.store 5 (.t 2) (.t 54)))⟩, ⟨(some 3), none, (.v (.mv (.t 55)))⟩]) .ret)))))))))
def r32 : List AI := [(.load 5 true (.t 2)), (.mv (.t 3))]
theorem f32 : Fn PP 32 1 a32 r32 := Fn.of (fn := Go.Proofs.Try.f32) (by kernel_rfl) (by kernel_rfl) (by kernel_rfl)
/-- The literal and the enable of each register. -/
def dG (G : Gra) (i : Nat) : Int := (gatP G i).2
def eG (G : Gra) (i : Nat) : Int := (gatP G i).1
def gatW (G : Gra) : Net := withN G (dG G) (eG G)
noncomputable def gatF (G : Gra) : Int := if graphF G ≠ 0 then graphF G else formF (gatW G)
noncomputable def gatN (G : Gra) : Net := if gatF G = 0 then cleanN (gatW G) (keepN (gatW G)) else eN
theorem dG_ok {G : Gra} (gd : G.Good) : ∀ i, i < G.nr → litOk G.nodes (dG G i) := fun i hi => (kept_ok gd (gd.next i hi)).2
theorem eG_ok {G : Gra} (gd : G.Good) : ∀ i, i < G.nr → litOk G.nodes (eG G i) := fun i hi => (kept_ok gd (gd.next i hi)).1
theorem withF_gat {G : Gra} (h : graphF G = 0) : withF G G.nr G.nr (dG G) (eG G) = formF (gatW G) := by
  have gd := good_of h
  have hl : lenW G G.nr G.nr (dG G) (eG G) = 0 := by
    unfold lenW
    rw [if_neg (by simp)]
    have : ∀ k, k ≤ 2 * G.nr → scan (fun i => badLit G.nodes (if i < G.nr then dG G i else eG G (i - G.nr))) k = 0 := fun k => by
      induction k with
      | zero => exact fun _ => rfl
      | succ k ih =>
        intro hk
        refine scan_step (ih (by omega)) ?_
        show badLit G.nodes (if k < G.nr then dG G k else eG G (k - G.nr)) = 0
        unfold badLit
        rw [if_pos]
        split
        · rename_i h; exact dG_ok gd k h
        · exact eG_ok gd _ (by omega)
    exact this _ (Nat.le_refl _)
  unfold withF
  rw [if_neg (by simpa using h), if_neg (by simpa using hl)]
  rfl
def twoApp : OT := .fork (.step 3 (.fork (.step 4 (.step 8 (.step 9 (.step 10 (.step 11 .leaf))))) (.step 8 (.step 4 (.step 9 (.step 10 (.step 11 .leaf))))))) (.step 8 (.step 3 (.step 4 (.step 9 (.step 10 (.step 11 .leaf))))))
theorem lit64 {G : Gra} (gd : G.Good) {l : Int} (h : litOk G.nodes l) : L64 l := by
  have := gd.nodes_le
  obtain ⟨h1, h2⟩ := h
  unfold L64; omega

theorem p32 {G : Gra} {cs : List AV} (hG : GraC cs G) (ok : G.Ok) : Pure PP 32 [.agg cs] fun r => ∃ ds, r = .tup [.agg ds, .int .i64 (gatF G)] ∧ NetC ds (gatN G) := by
  have hG0 := hG
  have pE := p63 hG ok
  obtain ⟨f0, f1, f2, f3, f4, rfl, g0, g1, g2, g3, g4⟩ := hG
  have hnr := ok.nr
  refine Fn.pure fmix f32 ?_
  unfold a32 r32
  simp -implicitDefEqProofs only [vqa, Nat.reduceEqDiff, Nat.reduceAdd, reduceIte, Nat.reduceLeDiff, Nat.reduceBEq, Nat.reduceLT, Nat.reduceSub, Int.reduceLT, Int.reduceLE, Int.reduceEq, Int.reduceToNat, Nat.reduceMul, eq_self, implies_true, forall_const]
  generalize (mem0 1).ver + 1 = V1
  generalize (mem0 2).ver + 1 = V2
  refine CallW.fz pE rfl rfl fun r ⟨k, fl, hr, hk0, hk1⟩ => ⟨by subst hr; rfl, ?_⟩
  subst hr
  simp -implicitDefEqProofs only [vqa, Nat.reduceEqDiff, Nat.reduceAdd, reduceIte, Nat.reduceLeDiff, Nat.reduceBEq, Nat.reduceLT, Nat.reduceSub, Int.reduceLT, Int.reduceLE, Int.reduceEq, Int.reduceToNat, Nat.reduceMul, eq_self, implies_true, forall_const]
  refine ⟨fun h => ?_, fun h => ?_⟩
  · have e1 : gatF G = graphF G := by unfold gatF; rw [if_pos h]
    have e2 : gatN G = eN := by unfold gatN; rw [if_neg (by rw [e1]; exact h)]
    rw [e1, e2]
    exact ⟨_, rfl, eN_c _ _ _ _ _⟩
  have h0 : graphF G = 0 := by simpa using h
  have gd := good_of h0
  have hwF := withF_gat h0
  have hgF : gatF G = formF (gatW G) := by unfold gatF; rw [if_neg h]
  have okW : (gatW G).Ok := withN_ok gd ok (dG_ok gd) (eG_ok gd)
  have hgN : gatN G = if formF (gatW G) = 0 then cleanN (gatW G) (keepN (gatW G)) else eN := by unfold gatN; rw [hgF]
  obtain ⟨hk, hfl⟩ := hk1 h0
  subst hk
  have p64r : ∀ fd fe : Nat → AV, (∀ i, i < G.nr → fd i = .int .i64 (dG G i)) → (∀ i, i < G.nr → fe i = .int .i64 (eG G i)) → Pure PP 64 [.agg [.fs G.ni f0, .fs G.no f1, .fs G.nr f2, .fs G.na f3, .fs G.nk f4], .fs G.nr fd, .fs G.nr fe] fun r => ∃ ds, r = .tup [.agg ds, .int .i64 (formF (gatW G))] ∧ NetC ds (if formF (gatW G) = 0 then gatW G else eN) := fun fd fe hd he =>
    (p64 hG0 ok G.nr G.nr (dG G) (eG G) fd fe hd he hnr hnr (fun i hi => lit64 gd (dG_ok gd i hi)) (fun i hi => lit64 gd (eG_ok gd i hi))).mono fun r _ ⟨ds, hr, q1, q2⟩ => ⟨ds, by rw [← hwF]; exact hr, by
      by_cases hh : formF (gatW G) = 0
      · rw [if_pos hh]; exact q2 (by rw [hwF]; exact hh)
      · rw [if_neg hh]
        obtain ⟨a0, a1, a2, a3, a4, rfl⟩ := q1 (by rw [hwF]; exact hh)
        exact eN_c _ _ _ _ _⟩
  refine vFor G.nr (fun i e m => e 1 = .ptr 1 V1 0 ∧ m 1 = .var V1 [.fs G.ni f0, .fs G.no f1, .fs G.nr f2, .fs G.na f3, .fs G.nk f4] ∧ e 2 = .ptr 2 V2 0 ∧ m 2 = .var V2 [.cap0, .cap0, .cap0, .cap0, .cap0] ∧ e 20 = .fs G.nr fl ∧ e 21 = .int .i64 G.nr ∧ e 22 = .int .i64 i ∧ AccP [30] 35 1 i (fun j a => a = .int .i64 (dG G j)) (e 6) m ∧ AccP [35] 35 1 i (fun j a => a = .int .i64 (eG G j)) (e 7) m) ?_ ?_ ?_
  · simp -implicitDefEqProofs only [vqa, Nat.reduceEqDiff, Nat.reduceAdd, reduceIte, Nat.reduceLeDiff, Nat.reduceBEq, Nat.reduceLT, Nat.reduceSub, Int.reduceLT, Int.reduceLE, Int.reduceEq, Int.reduceToNat, Nat.reduceMul, eq_self, implies_true, forall_const]
    exact ⟨.inl ⟨rfl, rfl⟩, .inl ⟨rfl, rfl⟩⟩
  · rintro i e m hi hi' ⟨h1, m1, h2, m2, h20, h21, h22, hA, hB⟩
    have hfi := hfl i hi
    unfold gatV at hfi
    unfold a32_0
    obtain ⟨hz, h6⟩ | ⟨s', sv, gg, hs', h6, hm, hg, hgn⟩ := hA
    · obtain ⟨_, h7⟩ | ⟨s2, sv2, gg2, hs2, h7, hm2, hg2, hgn2⟩ := hB
      · simp -implicitDefEqProofs only [vqa, Nat.reduceEqDiff, Nat.reduceAdd, reduceIte, Nat.reduceLeDiff, Nat.reduceBEq, Nat.reduceLT, Nat.reduceSub, Int.reduceLT, Int.reduceLE, Int.reduceEq, Int.reduceToNat, Nat.reduceMul, eq_self, implies_true, forall_const, h1, m1, h2, m2, h20, h21, h22, h6, h7, hi', hfi]
        generalize (m 9).ver + 1 = V9
        refine ⟨by omega, ?_⟩
        refine vAnyT [0, 1, 2, 5, 6, 7] twoApp (fun m => m 9 = .var V9 [.int .i64 (gatP G i).1, .int .i64 (gatP G i).2]) (by kernel_rfl) (by kernel_rfl) (by simp -implicitDefEqProofs only [vqa, Nat.reduceEqDiff, Nat.reduceAdd, reduceIte, Nat.reduceLeDiff, Nat.reduceBEq, Nat.reduceLT, Nat.reduceSub, Int.reduceLT, Int.reduceLE, Int.reduceEq, Int.reduceToNat, Nat.reduceMul, eq_self, implies_true, forall_const]) ?_
        unfold twoApp
        simp -implicitDefEqProofs only [vqa, Nat.reduceEqDiff, Nat.reduceAdd, reduceIte, Nat.reduceLeDiff, Nat.reduceBEq, Nat.reduceLT, Nat.reduceSub, Int.reduceLT, Int.reduceLE, Int.reduceEq, Int.reduceToNat, Nat.reduceMul, eq_self, implies_true, forall_const, vqt, h1, m1, h2, m2, h20, h21, h22, h6, h7, hi', hfi]
        subst hz
        repeat' apply And.intro
        all_goals first | exact hi | exact wI (by decide) (by decide) | (intro m hm; rw [hm]; exact ⟨_, rfl, rfl⟩) | exact AccP.first (by simp) rfl | exact AccP.put (AccP.first (by simp) rfl) (by simp) | exact AccP.put (AccP.put (AccP.first (by simp) rfl) (by simp)) (by simp)
      · omega
    · obtain rfl : s' = 30 := by simpa using hs'
      obtain ⟨_, h7⟩ | ⟨s2, sv2, gg2, hs2, h7, hm2, hg2, hgn2⟩ := hB
      · omega
      · obtain rfl : s2 = 35 := by simpa using hs2
        simp -implicitDefEqProofs only [vqa, Nat.reduceEqDiff, Nat.reduceAdd, reduceIte, Nat.reduceLeDiff, Nat.reduceBEq, Nat.reduceLT, Nat.reduceSub, Int.reduceLT, Int.reduceLE, Int.reduceEq, Int.reduceToNat, Nat.reduceMul, eq_self, implies_true, forall_const, h1, m1, h2, m2, h20, h21, h22, h6, h7, hm, hm2, hi', hfi]
        generalize (m 9).ver + 1 = V9
        refine ⟨by omega, ?_⟩
        refine vAnyT [0, 1, 2, 5, 6, 7] twoApp (fun m => m 9 = .var V9 [.int .i64 (gatP G i).1, .int .i64 (gatP G i).2]) (by kernel_rfl) (by kernel_rfl) (by simp -implicitDefEqProofs only [vqa, Nat.reduceEqDiff, Nat.reduceAdd, reduceIte, Nat.reduceLeDiff, Nat.reduceBEq, Nat.reduceLT, Nat.reduceSub, Int.reduceLT, Int.reduceLE, Int.reduceEq, Int.reduceToNat, Nat.reduceMul, eq_self, implies_true, forall_const]) ?_
        unfold twoApp
        simp -implicitDefEqProofs only [vqa, Nat.reduceEqDiff, Nat.reduceAdd, reduceIte, Nat.reduceLeDiff, Nat.reduceBEq, Nat.reduceLT, Nat.reduceSub, Int.reduceLT, Int.reduceLE, Int.reduceEq, Int.reduceToNat, Nat.reduceMul, eq_self, implies_true, forall_const, vqt, h1, m1, h2, m2, h20, h21, h22, h6, h7, hm, hm2, hi', hfi]
        repeat' apply And.intro
        all_goals first | omega | exact hi | exact wI (by omega) (by omega) | (intro m hm9; rw [hm9]; exact ⟨_, rfl, rfl⟩) | exact AccP.push (by simp) (by first | exact hg | exact hg2) rfl | exact AccP.put (AccP.push (by simp) (by first | exact hg | exact hg2) rfl) (by simp) | exact AccP.put (AccP.put (AccP.push (by simp) (by first | exact hg | exact hg2) rfl) (by simp)) (by simp)
  · rintro e m ⟨h1, m1, h2, m2, h20, h21, h22, hA, hB⟩
    unfold a32_0
    obtain ⟨hz, h6⟩ | ⟨s', sv, gg, hs', h6, hm, hg, hgn⟩ := hA
    · obtain ⟨_, h7⟩ | ⟨s2, sv2, gg2, hs2, h7, hm2, hg2, hgn2⟩ := hB
      · simp -implicitDefEqProofs only [vqa, Nat.reduceEqDiff, Nat.reduceAdd, reduceIte, Nat.reduceLeDiff, Nat.reduceBEq, Nat.reduceLT, Nat.reduceSub, Int.reduceLT, Int.reduceLE, Int.reduceEq, Int.reduceToNat, Nat.reduceMul, eq_self, implies_true, forall_const, h1, m1, h2, m2, h20, h21, h22, h6, h7]
        refine CallW.fz (p64r (fun _ => .undef) (fun _ => .undef) (fun i hi => by omega) (fun i hi => by omega)) (by rw [hz]; rfl) rfl fun r ⟨ds, hr, hN⟩ => ⟨by subst hr; obtain ⟨_, _, _, _, _, rfl, _⟩ := hN; rfl, ?_⟩
        subst hr
        have hN' := hN
        obtain ⟨q0, q1, q2, q3, q4, rfl, _⟩ := hN
        simp -implicitDefEqProofs only [vqa, Nat.reduceEqDiff, Nat.reduceAdd, reduceIte, Nat.reduceLeDiff, Nat.reduceBEq, Nat.reduceLT, Nat.reduceSub, Int.reduceLT, Int.reduceLE, Int.reduceEq, Int.reduceToNat, Nat.reduceMul, eq_self, implies_true, forall_const, h1, m1, h2, m2]
        generalize (m 10).ver + 1 = V10
        refine ⟨fun kz => ?_, fun kz => ?_⟩
        · rw [hgF, hgN, if_neg kz]
          exact ⟨_, rfl, eN_c _ _ _ _ _⟩
        · have hz0 : formF (gatW G) = 0 := Classical.not_not.1 kz
          simp only [hz0, if_true] at hN' ⊢
          refine CallW.fz (p65 hN' okW) rfl rfl fun r ⟨es, n, f, hr, _, hE⟩ => ⟨by subst hr; obtain ⟨⟨_, _, _, _, _, rfl, _⟩, _⟩ := hE hz0; rfl, ?_⟩
          subst hr
          have hE' := (hE hz0).1
          obtain ⟨u0, u1, u2, u3, u4, rfl, _⟩ := (hE hz0).1
          simp -implicitDefEqProofs only [vqa, Nat.reduceEqDiff, Nat.reduceAdd, reduceIte, Nat.reduceLeDiff, Nat.reduceBEq, Nat.reduceLT, Nat.reduceSub, Int.reduceLT, Int.reduceLE, Int.reduceEq, Int.reduceToNat, Nat.reduceMul, eq_self, implies_true, forall_const, h1, m1, h2, m2]
          rw [hgF, hgN, hz0, if_pos rfl]
          exact ⟨_, rfl, hE'⟩
      · omega
    · obtain rfl : s' = 30 := by simpa using hs'
      obtain ⟨_, h7⟩ | ⟨s2, sv2, gg2, hs2, h7, hm2, hg2, hgn2⟩ := hB
      · omega
      · obtain rfl : s2 = 35 := by simpa using hs2
        simp -implicitDefEqProofs only [vqa, Nat.reduceEqDiff, Nat.reduceAdd, reduceIte, Nat.reduceLeDiff, Nat.reduceBEq, Nat.reduceLT, Nat.reduceSub, Int.reduceLT, Int.reduceLE, Int.reduceEq, Int.reduceToNat, Nat.reduceMul, eq_self, implies_true, forall_const, h1, m1, h2, m2, h20, h21, h22, h6, h7, hm, hm2]
        refine CallW.frz (by simp -implicitDefEqProofs only [vqa, Nat.reduceEqDiff, Nat.reduceAdd, reduceIte, Nat.reduceLeDiff, Nat.reduceBEq, Nat.reduceLT, Nat.reduceSub, Int.reduceLT, Int.reduceLE, Int.reduceEq, Int.reduceToNat, Nat.reduceMul, eq_self, implies_true, forall_const, hm, hm2]; rfl) (by simp only [and_self]) ?_
        refine CallW.fz (p64r gg gg2 hg hg2) rfl rfl fun r ⟨ds, hr, hN⟩ => ⟨by subst hr; obtain ⟨_, _, _, _, _, rfl, _⟩ := hN; rfl, ?_⟩
        subst hr
        have hN' := hN
        obtain ⟨q0, q1, q2, q3, q4, rfl, _⟩ := hN
        simp -implicitDefEqProofs only [vqa, Nat.reduceEqDiff, Nat.reduceAdd, reduceIte, Nat.reduceLeDiff, Nat.reduceBEq, Nat.reduceLT, Nat.reduceSub, Int.reduceLT, Int.reduceLE, Int.reduceEq, Int.reduceToNat, Nat.reduceMul, eq_self, implies_true, forall_const, h1, m1, h2, m2]
        generalize (m 10).ver + 1 = V10
        refine ⟨fun kz => ?_, fun kz => ?_⟩
        · rw [hgF, hgN, if_neg kz]
          exact ⟨_, rfl, eN_c _ _ _ _ _⟩
        · have hz0 : formF (gatW G) = 0 := Classical.not_not.1 kz
          simp only [hz0, if_true] at hN' ⊢
          refine CallW.fz (p65 hN' okW) rfl rfl fun r ⟨es, n, f, hr, _, hE⟩ => ⟨by subst hr; obtain ⟨⟨_, _, _, _, _, rfl, _⟩, _⟩ := hE hz0; rfl, ?_⟩
          subst hr
          have hE' := (hE hz0).1
          obtain ⟨u0, u1, u2, u3, u4, rfl, _⟩ := (hE hz0).1
          simp -implicitDefEqProofs only [vqa, Nat.reduceEqDiff, Nat.reduceAdd, reduceIte, Nat.reduceLeDiff, Nat.reduceBEq, Nat.reduceLT, Nat.reduceSub, Int.reduceLT, Int.reduceLE, Int.reduceEq, Int.reduceToNat, Nat.reduceMul, eq_self, implies_true, forall_const, h1, m1, h2, m2]
          rw [hgF, hgN, hz0, if_pos rfl]
          exact ⟨_, rfl, hE'⟩

theorem gatN_ok {G : Gra} (ok : G.Ok) : (gatN G).Ok := by
  unfold gatN
  split
  · rename_i h
    have hg : graphF G = 0 := by
      unfold gatF at h
      by_cases hh : graphF G = 0
      · exact hh
      · rw [if_pos hh] at h; exact absurd h hh
    have gd := good_of hg
    have hf : formF (gatW G) = 0 := by unfold gatF at h; rw [if_neg (by simpa using hg)] at h; exact h
    exact cleanN_ok (Net.good hf) (withN_ok gd ok (dG_ok gd) (eG_ok gd)) _
  · exact eN_ok
theorem p5 {G : Gra} {cs : List AV} (hG : GraC cs G) (ok : G.Ok) : Pure PP 5 [.agg cs] fun r => r = .bool true := by
  have hG0 := hG
  have p32c := p32 hG ok
  have p16c := p16 hG ok
  have gok := gatN_ok ok
  obtain ⟨f0, f1, f2, f3, f4, rfl, g0, g1, g2, g3, g4⟩ := hG
  refine Fn.pure fmix f5 ?_
  unfold a5 r5
  simp -implicitDefEqProofs only [vqa, Nat.reduceEqDiff, Nat.reduceAdd, reduceIte, Nat.reduceLeDiff, Nat.reduceBEq, Nat.reduceLT, Nat.reduceSub, Int.reduceLT, Int.reduceLE, Int.reduceEq, Int.reduceToNat, Nat.reduceMul, eq_self, implies_true, forall_const]
  generalize (mem0 1).ver + 1 = V1
  refine CallW.fz p32c rfl rfl fun r ⟨ds, hr, hN⟩ => ⟨by subst hr; obtain ⟨_, _, _, _, _, rfl, _⟩ := hN; rfl, ?_⟩
  subst hr
  have hN' := hN
  obtain ⟨q0, q1, q2, q3, q4, rfl, _⟩ := hN
  simp -implicitDefEqProofs only [vqa, Nat.reduceEqDiff, Nat.reduceAdd, reduceIte, Nat.reduceLeDiff, Nat.reduceBEq, Nat.reduceLT, Nat.reduceSub, Int.reduceLT, Int.reduceLE, Int.reduceEq, Int.reduceToNat, Nat.reduceMul, eq_self, implies_true, forall_const]
  generalize (mem0 3).ver + 1 = V3
  refine CallW.sc p16c rfl ⟨⟨trivial, trivial, trivial, trivial, trivial, trivial⟩, trivial⟩ fun r hr => ⟨by subst hr; rfl, ?_⟩
  subst hr
  simp -implicitDefEqProofs only [vqa, Nat.reduceEqDiff, Nat.reduceAdd, reduceIte, Nat.reduceLeDiff, Nat.reduceBEq, Nat.reduceLT, Nat.reduceSub, Int.reduceLT, Int.reduceLE, Int.reduceEq, Int.reduceToNat, Nat.reduceMul, eq_self, implies_true, forall_const]
  generalize (mem0 6).ver + 1 = V6
  refine ⟨fun h => ?_, fun h => ?_⟩
  rotate_left
  · have e1 : gatF G = graphF G := by unfold gatF; rw [if_pos h]
    have e2 : gatN G = eN := by unfold gatN; rw [if_neg (by rw [e1]; exact h)]
    refine CallW.sc p37 rfl trivial fun r hr => ⟨by subst hr; rfl, ?_⟩
    subst hr
    simp -implicitDefEqProofs only [vqa, Nat.reduceEqDiff, Nat.reduceAdd, reduceIte, Nat.reduceLeDiff, Nat.reduceBEq, Nat.reduceLT, Nat.reduceSub, Int.reduceLT, Int.reduceLE, Int.reduceEq, Int.reduceToNat, Nat.reduceMul, eq_self, implies_true, forall_const, e1]
    refine CallW.sc (p38 hN' gok (eN_c (fun _ => .undef) (fun _ => .undef) (fun _ => .undef) (fun _ => .undef) (fun _ => .undef)) eN_ok) ?_ ?_ fun r ⟨b, hr, hb⟩ => ⟨by subst hr; rfl, ?_⟩
    · simp only [rsC, rs2, rs1, rs0, vqa, Nat.reduceEqDiff, Nat.reduceAdd, reduceIte, Nat.reduceLeDiff, Nat.reduceBEq, Nat.reduceLT, Nat.reduceSub, Int.reduceLT, Int.reduceLE, Int.reduceEq, Int.reduceToNat, Nat.reduceMul, eq_self, implies_true, forall_const] <;> rfl
    · simp only [rsC, rs2, rs1, rs0, vqa, Nat.reduceEqDiff, Nat.reduceAdd, reduceIte, Nat.reduceLeDiff, Nat.reduceBEq, Nat.reduceLT, Nat.reduceSub, Int.reduceLT, Int.reduceLE, Int.reduceEq, Int.reduceToNat, Nat.reduceMul, eq_self, implies_true, forall_const] <;> trivial
    subst hr
    obtain rfl : b = true := hb.2 (by rw [e2]; exact sameN_refl _)
    simp -implicitDefEqProofs only [vqa, Nat.reduceEqDiff, Nat.reduceAdd, reduceIte, Nat.reduceLeDiff, Nat.reduceBEq, Nat.reduceLT, Nat.reduceSub, Int.reduceLT, Int.reduceLE, Int.reduceEq, Int.reduceToNat, Nat.reduceMul, eq_self, implies_true, forall_const]
  have h0 : graphF G = 0 := h
  have gd := good_of h0
  have b1 := gd.ni; have b2 := gd.nr
  have okW : (gatW G).Ok := withN_ok gd ok (dG_ok gd) (eG_ok gd)
  have hgF : gatF G = formF (gatW G) := by unfold gatF; rw [if_neg (by simpa using h0)]
  have hgN : gatN G = if formF (gatW G) = 0 then cleanN (gatW G) (keepN (gatW G)) else eN := by unfold gatN; rw [hgF]
  rw [h0]
  refine vFor G.nr (fun i e m => e 1 = .ptr 1 V1 0 ∧ m 1 = .var V1 [.fs G.ni f0, .fs G.no f1, .fs G.nr f2, .fs G.na f3, .fs G.nk f4] ∧ e 3 = .ptr 3 V3 0 ∧ m 3 = .var V3 [.fs (gatN G).ni q0, .fs (gatN G).no q1, .fs (gatN G).nf q2, .fs (gatN G).ng q3, .fs (gatN G).nk q4] ∧ e 4 = .int .i64 (gatF G) ∧ e 5 = .int .i64 0 ∧ e 6 = .ptr 6 V6 0 ∧ m 6 = .var V6 [.cap0, .cap0, .cap0, .cap0, .cap0] ∧ e 22 = .fs G.nr f2 ∧ e 23 = .int .i64 G.nr ∧ e 24 = .int .i64 i ∧ AccP [44] 35 1 i (fun j a => a = .int .i64 (dG G j)) (e 7) m ∧ AccP [49] 35 1 i (fun j a => a = .int .i64 (eG G j)) (e 8) m) ?_ ?_ ?_
  · simp -implicitDefEqProofs only [vqa, Nat.reduceEqDiff, Nat.reduceAdd, reduceIte, Nat.reduceLeDiff, Nat.reduceBEq, Nat.reduceLT, Nat.reduceSub, Int.reduceLT, Int.reduceLE, Int.reduceEq, Int.reduceToNat, Nat.reduceMul, eq_self, implies_true, forall_const]
    exact ⟨.inl ⟨rfl, rfl⟩, .inl ⟨rfl, rfl⟩⟩
  · rintro i e m hi hi' ⟨h1, m1, h3, m3, h4, h5, h6, m6, h22, h23, h24, hA, hB⟩
    have hfi := g2 i hi
    unfold RegV.av at hfi
    have pK := p33 hG0 ok gd (G.reg i).next (2 * (1 + G.ni + i : Nat) : Int) (gd.next i hi)
    have w1 : IntKind.i64.wrap (2 * IntKind.i64.wrap (IntKind.i64.wrap (1 + (G.ni : Int)) + (i : Int))) = (2 * (1 + G.ni + i : Nat) : Int) := by
      rw [wI (n := 1 + (G.ni : Int)) (by omega) (by omega), wI (n := 1 + (G.ni : Int) + (i : Int)) (by omega) (by omega), wI (by omega) (by omega)]; omega
    unfold a5_0
    obtain ⟨hz, h7⟩ | ⟨s', sv, gg, hs', h7, hm, hg, hgn⟩ := hA
    · obtain ⟨_, h8⟩ | ⟨s2, sv2, gg2, hs2, h8, hm2, hg2, hgn2⟩ := hB
      · simp -implicitDefEqProofs only [vqa, Nat.reduceEqDiff, Nat.reduceAdd, reduceIte, Nat.reduceLeDiff, Nat.reduceBEq, Nat.reduceLT, Nat.reduceSub, Int.reduceLT, Int.reduceLE, Int.reduceEq, Int.reduceToNat, Nat.reduceMul, eq_self, implies_true, forall_const, h1, m1, h3, m3, h4, h5, h6, m6, h22, h23, h24, h7, h8, hi', hfi, w1]
        refine ⟨by omega, ?_⟩
        refine CallW.sc pK rfl ⟨⟨trivial, trivial, trivial, trivial, trivial, trivial⟩, trivial, trivial, trivial⟩ fun r hr => ⟨by subst hr; rfl, ?_⟩
        subst hr
        simp -implicitDefEqProofs only [vqa, Nat.reduceEqDiff, Nat.reduceAdd, reduceIte, Nat.reduceLeDiff, Nat.reduceBEq, Nat.reduceLT, Nat.reduceSub, Int.reduceLT, Int.reduceLE, Int.reduceEq, Int.reduceToNat, Nat.reduceMul, eq_self, implies_true, forall_const, h1, m1, h3, m3, h4, h5, h6, m6, h22, h23, h24, h7, h8, hi', hfi]
        generalize (m 11).ver + 1 = V11
        refine vAnyT [0, 1, 2, 5, 6, 7] twoApp (fun m => m 11 = .var V11 [.int .i64 (gatP G i).1, .int .i64 (gatP G i).2]) (by kernel_rfl) (by kernel_rfl) (by simp -implicitDefEqProofs only [vqa, Nat.reduceEqDiff, Nat.reduceAdd, reduceIte, Nat.reduceLeDiff, Nat.reduceBEq, Nat.reduceLT, Nat.reduceSub, Int.reduceLT, Int.reduceLE, Int.reduceEq, Int.reduceToNat, Nat.reduceMul, eq_self, implies_true, forall_const]; rfl) ?_
        unfold twoApp
        simp -implicitDefEqProofs only [vqa, Nat.reduceEqDiff, Nat.reduceAdd, reduceIte, Nat.reduceLeDiff, Nat.reduceBEq, Nat.reduceLT, Nat.reduceSub, Int.reduceLT, Int.reduceLE, Int.reduceEq, Int.reduceToNat, Nat.reduceMul, eq_self, implies_true, forall_const, vqt, h1, m1, h3, m3, h4, h5, h6, m6, h22, h23, h24, h7, h8, hi', hfi]
        subst hz
        repeat' apply And.intro
        all_goals first | omega | exact hi | exact wI (by omega) (by omega) | rfl | (intro m hm9; rw [hm9]; exact ⟨_, rfl, rfl⟩) | exact AccP.first (by simp) rfl | exact AccP.put (AccP.first (by simp) rfl) (by simp) | exact AccP.put (AccP.put (AccP.first (by simp) rfl) (by simp)) (by simp)
      · omega
    · obtain rfl : s' = 44 := by simpa using hs'
      obtain ⟨_, h8⟩ | ⟨s2, sv2, gg2, hs2, h8, hm2, hg2, hgn2⟩ := hB
      · omega
      · obtain rfl : s2 = 49 := by simpa using hs2
        simp -implicitDefEqProofs only [vqa, Nat.reduceEqDiff, Nat.reduceAdd, reduceIte, Nat.reduceLeDiff, Nat.reduceBEq, Nat.reduceLT, Nat.reduceSub, Int.reduceLT, Int.reduceLE, Int.reduceEq, Int.reduceToNat, Nat.reduceMul, eq_self, implies_true, forall_const, h1, m1, h3, m3, h4, h5, h6, m6, h22, h23, h24, h7, h8, hm, hm2, hi', hfi, w1]
        refine ⟨by omega, ?_⟩
        refine CallW.sc pK rfl ⟨⟨trivial, trivial, trivial, trivial, trivial, trivial⟩, trivial, trivial, trivial⟩ fun r hr => ⟨by subst hr; rfl, ?_⟩
        subst hr
        simp -implicitDefEqProofs only [vqa, Nat.reduceEqDiff, Nat.reduceAdd, reduceIte, Nat.reduceLeDiff, Nat.reduceBEq, Nat.reduceLT, Nat.reduceSub, Int.reduceLT, Int.reduceLE, Int.reduceEq, Int.reduceToNat, Nat.reduceMul, eq_self, implies_true, forall_const, h1, m1, h3, m3, h4, h5, h6, m6, h22, h23, h24, h7, h8, hm, hm2, hi', hfi]
        generalize (m 11).ver + 1 = V11
        refine vAnyT [0, 1, 2, 5, 6, 7] twoApp (fun m => m 11 = .var V11 [.int .i64 (gatP G i).1, .int .i64 (gatP G i).2]) (by kernel_rfl) (by kernel_rfl) (by simp -implicitDefEqProofs only [vqa, Nat.reduceEqDiff, Nat.reduceAdd, reduceIte, Nat.reduceLeDiff, Nat.reduceBEq, Nat.reduceLT, Nat.reduceSub, Int.reduceLT, Int.reduceLE, Int.reduceEq, Int.reduceToNat, Nat.reduceMul, eq_self, implies_true, forall_const]; rfl) ?_
        unfold twoApp
        simp -implicitDefEqProofs only [vqa, Nat.reduceEqDiff, Nat.reduceAdd, reduceIte, Nat.reduceLeDiff, Nat.reduceBEq, Nat.reduceLT, Nat.reduceSub, Int.reduceLT, Int.reduceLE, Int.reduceEq, Int.reduceToNat, Nat.reduceMul, eq_self, implies_true, forall_const, vqt, h1, m1, h3, m3, h4, h5, h6, m6, h22, h23, h24, h7, h8, hm, hm2, hi', hfi]
        skip
        repeat' apply And.intro
        all_goals first | omega | exact hi | exact wI (by omega) (by omega) | rfl | (intro m hm9; rw [hm9]; exact ⟨_, rfl, rfl⟩) | exact AccP.push (by simp) (by first | exact hg | exact hg2) rfl | exact AccP.put (AccP.push (by simp) (by first | exact hg | exact hg2) rfl) (by simp) | exact AccP.put (AccP.put (AccP.push (by simp) (by first | exact hg | exact hg2) rfl) (by simp)) (by simp)
  · rintro e m ⟨h1, m1, h3, m3, h4, h5, h6, m6, h22, h23, h24, hA, hB⟩
    unfold a5_0
    obtain ⟨hz, h7⟩ | ⟨s', sv, gg, hs', h7, hm, hg, hgn⟩ := hA
    · obtain ⟨_, h8⟩ | ⟨s2, sv2, gg2, hs2, h8, hm2, hg2, hgn2⟩ := hB
      · skip
        simp -implicitDefEqProofs only [vqa, Nat.reduceEqDiff, Nat.reduceAdd, reduceIte, Nat.reduceLeDiff, Nat.reduceBEq, Nat.reduceLT, Nat.reduceSub, Int.reduceLT, Int.reduceLE, Int.reduceEq, Int.reduceToNat, Nat.reduceMul, eq_self, implies_true, forall_const, h1, m1, h3, m3, h4, h5, h6, m6, h22, h23, h24, h7, h8]
        refine CallW.fz (p34 hG0 gd (dG G) (eG G) (fun _ => .undef) (fun _ => .undef) (fun i hi => by omega) (fun i hi => by omega) (dG_ok gd) (eG_ok gd)) (by rw [hz]; rfl) rfl fun r ⟨ds, hr, hP⟩ => ⟨by subst hr; obtain ⟨_, _, _, _, _, rfl, _⟩ := hP; rfl, ?_⟩
        subst hr
        have hP' : NetC _ (gatW G) := hP
        obtain ⟨v0, v1, v2, v3, v4, rfl, _⟩ := hP
        simp -implicitDefEqProofs only [vqa, Nat.reduceEqDiff, Nat.reduceAdd, reduceIte, Nat.reduceLeDiff, Nat.reduceBEq, Nat.reduceLT, Nat.reduceSub, Int.reduceLT, Int.reduceLE, Int.reduceEq, Int.reduceToNat, Nat.reduceMul, eq_self, implies_true, forall_const, h1, m1, h3, m3, h4, h5, h6, m6]
        refine CallW.sc (p35 hP' okW) rfl ⟨⟨trivial, trivial, trivial, trivial, trivial, trivial⟩, trivial⟩ fun r hr => ⟨by subst hr; rfl, ?_⟩
        subst hr
        simp -implicitDefEqProofs only [vqa, Nat.reduceEqDiff, Nat.reduceAdd, reduceIte, Nat.reduceLeDiff, Nat.reduceBEq, Nat.reduceLT, Nat.reduceSub, Int.reduceLT, Int.reduceLE, Int.reduceEq, Int.reduceToNat, Nat.reduceMul, eq_self, implies_true, forall_const, h1, m1, h3, m3, h4, h5, h6, m6]
        refine ⟨fun kz => ?_, fun kz => ?_⟩
        · have hz0 : formF (gatW G) = 0 := kz
          have eN1 : gatN G = cleanN (gatW G) (keepN (gatW G)) := by rw [hgN, if_pos hz0]
          refine CallW.fz (p36 hP' okW (Net.good hz0)) rfl rfl fun r ⟨es, f, hr, hE, _⟩ => ⟨by subst hr; obtain ⟨_, _, _, _, _, rfl, _⟩ := hE; rfl, ?_⟩
          subst hr
          have hE' := hE
          obtain ⟨u0, u1, u2, u3, u4, rfl, _⟩ := hE
          have okC : (cleanN (gatW G) (keepN (gatW G))).Ok := by rw [← eN1]; exact gok
          simp -implicitDefEqProofs only [vqa, Nat.reduceEqDiff, Nat.reduceAdd, reduceIte, Nat.reduceLeDiff, Nat.reduceBEq, Nat.reduceLT, Nat.reduceSub, Int.reduceLT, Int.reduceLE, Int.reduceEq, Int.reduceToNat, Nat.reduceMul, eq_self, implies_true, forall_const, h1, m1, h3, m3, h4, h5, h6, m6]
          refine CallW.sc p37 rfl trivial fun r hr => ⟨by subst hr; rfl, ?_⟩
          subst hr
          simp -implicitDefEqProofs only [vqa, Nat.reduceEqDiff, Nat.reduceAdd, reduceIte, Nat.reduceLeDiff, Nat.reduceBEq, Nat.reduceLT, Nat.reduceSub, Int.reduceLT, Int.reduceLE, Int.reduceEq, Int.reduceToNat, Nat.reduceMul, eq_self, implies_true, forall_const, h1, m1, h3, m3, h4, h5, h6, m6, hgF]
          refine CallW.sc (p38 hN' gok hE' okC) rfl ⟨⟨trivial, trivial, trivial, trivial, trivial, trivial⟩, ⟨trivial, trivial, trivial, trivial, trivial, trivial⟩, trivial⟩ fun r ⟨b, hr, hb⟩ => ⟨by subst hr; rfl, ?_⟩
          subst hr
          obtain rfl : b = true := hb.2 (by rw [eN1]; exact sameN_refl _)
          simp -implicitDefEqProofs only [vqa, Nat.reduceEqDiff, Nat.reduceAdd, reduceIte, Nat.reduceLeDiff, Nat.reduceBEq, Nat.reduceLT, Nat.reduceSub, Int.reduceLT, Int.reduceLE, Int.reduceEq, Int.reduceToNat, Nat.reduceMul, eq_self, implies_true, forall_const]
        · have kz' : ¬ formF (gatW G) = 0 := kz
          have eN1 : gatN G = eN := by rw [hgN, if_neg kz']
          refine CallW.sc p37 rfl trivial fun r hr => ⟨by subst hr; rfl, ?_⟩
          subst hr
          simp -implicitDefEqProofs only [vqa, Nat.reduceEqDiff, Nat.reduceAdd, reduceIte, Nat.reduceLeDiff, Nat.reduceBEq, Nat.reduceLT, Nat.reduceSub, Int.reduceLT, Int.reduceLE, Int.reduceEq, Int.reduceToNat, Nat.reduceMul, eq_self, implies_true, forall_const, h1, m1, h3, m3, h4, h5, h6, m6, hgF]
          refine CallW.sc (p38 hN' gok (eN_c (fun _ => .undef) (fun _ => .undef) (fun _ => .undef) (fun _ => .undef) (fun _ => .undef)) eN_ok) ?_ ?_ fun r ⟨b, hr, hb⟩ => ⟨by subst hr; rfl, ?_⟩
          · simp only [rsC, rs2, rs1, rs0, vqa, Nat.reduceEqDiff, Nat.reduceAdd, reduceIte, Nat.reduceLeDiff, Nat.reduceBEq, Nat.reduceLT, Nat.reduceSub, Int.reduceLT, Int.reduceLE, Int.reduceEq, Int.reduceToNat, Nat.reduceMul, eq_self, implies_true, forall_const] <;> rfl
          · simp only [rsC, rs2, rs1, rs0, vqa, Nat.reduceEqDiff, Nat.reduceAdd, reduceIte, Nat.reduceLeDiff, Nat.reduceBEq, Nat.reduceLT, Nat.reduceSub, Int.reduceLT, Int.reduceLE, Int.reduceEq, Int.reduceToNat, Nat.reduceMul, eq_self, implies_true, forall_const] <;> trivial
          subst hr
          obtain rfl : b = true := hb.2 (by rw [eN1]; exact sameN_refl _)
          simp -implicitDefEqProofs only [vqa, Nat.reduceEqDiff, Nat.reduceAdd, reduceIte, Nat.reduceLeDiff, Nat.reduceBEq, Nat.reduceLT, Nat.reduceSub, Int.reduceLT, Int.reduceLE, Int.reduceEq, Int.reduceToNat, Nat.reduceMul, eq_self, implies_true, forall_const]
      · omega
    · obtain rfl : s' = 44 := by simpa using hs'
      obtain ⟨_, h8⟩ | ⟨s2, sv2, gg2, hs2, h8, hm2, hg2, hgn2⟩ := hB
      · omega
      · obtain rfl : s2 = 49 := by simpa using hs2
        simp -implicitDefEqProofs only [vqa, Nat.reduceEqDiff, Nat.reduceAdd, reduceIte, Nat.reduceLeDiff, Nat.reduceBEq, Nat.reduceLT, Nat.reduceSub, Int.reduceLT, Int.reduceLE, Int.reduceEq, Int.reduceToNat, Nat.reduceMul, eq_self, implies_true, forall_const, h1, m1, h3, m3, h4, h5, h6, m6, h22, h23, h24, h7, h8, hm, hm2]
        refine CallW.frz (by simp -implicitDefEqProofs only [vqa, Nat.reduceEqDiff, Nat.reduceAdd, reduceIte, Nat.reduceLeDiff, Nat.reduceBEq, Nat.reduceLT, Nat.reduceSub, Int.reduceLT, Int.reduceLE, Int.reduceEq, Int.reduceToNat, Nat.reduceMul, eq_self, implies_true, forall_const, hm, hm2]; rfl) (by simp only [and_self]) ?_
        refine CallW.fz (p34 hG0 gd (dG G) (eG G) gg gg2 hg hg2 (dG_ok gd) (eG_ok gd)) rfl rfl fun r ⟨ds, hr, hP⟩ => ⟨by subst hr; obtain ⟨_, _, _, _, _, rfl, _⟩ := hP; rfl, ?_⟩
        subst hr
        have hP' : NetC _ (gatW G) := hP
        obtain ⟨v0, v1, v2, v3, v4, rfl, _⟩ := hP
        simp -implicitDefEqProofs only [vqa, Nat.reduceEqDiff, Nat.reduceAdd, reduceIte, Nat.reduceLeDiff, Nat.reduceBEq, Nat.reduceLT, Nat.reduceSub, Int.reduceLT, Int.reduceLE, Int.reduceEq, Int.reduceToNat, Nat.reduceMul, eq_self, implies_true, forall_const, h1, m1, h3, m3, h4, h5, h6, m6]
        refine CallW.sc (p35 hP' okW) rfl ⟨⟨trivial, trivial, trivial, trivial, trivial, trivial⟩, trivial⟩ fun r hr => ⟨by subst hr; rfl, ?_⟩
        subst hr
        simp -implicitDefEqProofs only [vqa, Nat.reduceEqDiff, Nat.reduceAdd, reduceIte, Nat.reduceLeDiff, Nat.reduceBEq, Nat.reduceLT, Nat.reduceSub, Int.reduceLT, Int.reduceLE, Int.reduceEq, Int.reduceToNat, Nat.reduceMul, eq_self, implies_true, forall_const, h1, m1, h3, m3, h4, h5, h6, m6]
        refine ⟨fun kz => ?_, fun kz => ?_⟩
        · have hz0 : formF (gatW G) = 0 := kz
          have eN1 : gatN G = cleanN (gatW G) (keepN (gatW G)) := by rw [hgN, if_pos hz0]
          refine CallW.fz (p36 hP' okW (Net.good hz0)) rfl rfl fun r ⟨es, f, hr, hE, _⟩ => ⟨by subst hr; obtain ⟨_, _, _, _, _, rfl, _⟩ := hE; rfl, ?_⟩
          subst hr
          have hE' := hE
          obtain ⟨u0, u1, u2, u3, u4, rfl, _⟩ := hE
          have okC : (cleanN (gatW G) (keepN (gatW G))).Ok := by rw [← eN1]; exact gok
          simp -implicitDefEqProofs only [vqa, Nat.reduceEqDiff, Nat.reduceAdd, reduceIte, Nat.reduceLeDiff, Nat.reduceBEq, Nat.reduceLT, Nat.reduceSub, Int.reduceLT, Int.reduceLE, Int.reduceEq, Int.reduceToNat, Nat.reduceMul, eq_self, implies_true, forall_const, h1, m1, h3, m3, h4, h5, h6, m6]
          refine CallW.sc p37 rfl trivial fun r hr => ⟨by subst hr; rfl, ?_⟩
          subst hr
          simp -implicitDefEqProofs only [vqa, Nat.reduceEqDiff, Nat.reduceAdd, reduceIte, Nat.reduceLeDiff, Nat.reduceBEq, Nat.reduceLT, Nat.reduceSub, Int.reduceLT, Int.reduceLE, Int.reduceEq, Int.reduceToNat, Nat.reduceMul, eq_self, implies_true, forall_const, h1, m1, h3, m3, h4, h5, h6, m6, hgF]
          refine CallW.sc (p38 hN' gok hE' okC) rfl ⟨⟨trivial, trivial, trivial, trivial, trivial, trivial⟩, ⟨trivial, trivial, trivial, trivial, trivial, trivial⟩, trivial⟩ fun r ⟨b, hr, hb⟩ => ⟨by subst hr; rfl, ?_⟩
          subst hr
          obtain rfl : b = true := hb.2 (by rw [eN1]; exact sameN_refl _)
          simp -implicitDefEqProofs only [vqa, Nat.reduceEqDiff, Nat.reduceAdd, reduceIte, Nat.reduceLeDiff, Nat.reduceBEq, Nat.reduceLT, Nat.reduceSub, Int.reduceLT, Int.reduceLE, Int.reduceEq, Int.reduceToNat, Nat.reduceMul, eq_self, implies_true, forall_const]
        · have kz' : ¬ formF (gatW G) = 0 := kz
          have eN1 : gatN G = eN := by rw [hgN, if_neg kz']
          refine CallW.sc p37 rfl trivial fun r hr => ⟨by subst hr; rfl, ?_⟩
          subst hr
          simp -implicitDefEqProofs only [vqa, Nat.reduceEqDiff, Nat.reduceAdd, reduceIte, Nat.reduceLeDiff, Nat.reduceBEq, Nat.reduceLT, Nat.reduceSub, Int.reduceLT, Int.reduceLE, Int.reduceEq, Int.reduceToNat, Nat.reduceMul, eq_self, implies_true, forall_const, h1, m1, h3, m3, h4, h5, h6, m6, hgF]
          refine CallW.sc (p38 hN' gok (eN_c (fun _ => .undef) (fun _ => .undef) (fun _ => .undef) (fun _ => .undef) (fun _ => .undef)) eN_ok) ?_ ?_ fun r ⟨b, hr, hb⟩ => ⟨by subst hr; rfl, ?_⟩
          · simp only [rsC, rs2, rs1, rs0, vqa, Nat.reduceEqDiff, Nat.reduceAdd, reduceIte, Nat.reduceLeDiff, Nat.reduceBEq, Nat.reduceLT, Nat.reduceSub, Int.reduceLT, Int.reduceLE, Int.reduceEq, Int.reduceToNat, Nat.reduceMul, eq_self, implies_true, forall_const] <;> rfl
          · simp only [rsC, rs2, rs1, rs0, vqa, Nat.reduceEqDiff, Nat.reduceAdd, reduceIte, Nat.reduceLeDiff, Nat.reduceBEq, Nat.reduceLT, Nat.reduceSub, Int.reduceLT, Int.reduceLE, Int.reduceEq, Int.reduceToNat, Nat.reduceMul, eq_self, implies_true, forall_const] <;> trivial
          subst hr
          obtain rfl : b = true := hb.2 (by rw [eN1]; exact sameN_refl _)
          simp -implicitDefEqProofs only [vqa, Nat.reduceEqDiff, Nat.reduceAdd, reduceIte, Nat.reduceLeDiff, Nat.reduceBEq, Nat.reduceLT, Nat.reduceSub, Int.reduceLT, Int.reduceLE, Int.reduceEq, Int.reduceToNat, Nat.reduceMul, eq_self, implies_true, forall_const]
end Go.Ab
