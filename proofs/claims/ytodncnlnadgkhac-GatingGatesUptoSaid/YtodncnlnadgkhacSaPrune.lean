/- Walks: Pruned. -/
import Derived.Test.YtodncnlnadgkhacSaEnds
import Derived.Test.YtodncnlnadgkhacLwClean
import Derived.Test.YtodncnlnadgkhacFwQ2
import Derived.Test.YtodncnlnadgkhacFwW
set_option linter.unusedSimpArgs false
set_option linter.unusedVariables false
namespace Go.Ab
open Go
def a73_0 : AC := (.seq (.ops [⟨(some 26), none, (.v (.bin .lss (.t 25) (.t 24)))⟩]) (.seq (.cond (.t 26) .skip (.exit 0)) (.seq (.block 1 (.seq (.ops [⟨(some 27), none, (.v (.idx 1 (.t 23) (.t 25)))⟩, ⟨(some 28), none, (.v (.load 1 false (.t 27)))⟩, ⟨(some 7), none, (.v (.mv (.t 28)))⟩]) (.ops [⟨(some 29), none, (.v (.load 1 false (.t 4)))⟩, ⟨(some 30), none, (.v (.mv (.t 7)))⟩, ⟨(some 31), none, (.call (.t 29) [(.t 30)])⟩]))) (.ops [⟨(some 32), none, (.v (.bin .add (.t 25) (.c (.int .i64 1))))⟩, ⟨(some 25), none, (.v (.mv (.t 32)))⟩]))))
def a73 : AC := (.seq (.seq (.ops [⟨(some 8), none, (.v (.load 1 false (.t 1)))⟩, ⟨(some 9), none, (.v (.mv (.t 0)))⟩, ⟨(some 10), none, (.v (.lku false (.int .i64) none (.t 8) (.t 9)))⟩]) (.cond (.t 10) .ret .skip)) (.seq (.ops [⟨(some 11), none, (.v (.load 1 false (.t 1)))⟩, ⟨(some 12), none, (.v (.mv (.t 0)))⟩, ⟨none, none, (.e (.mapup (.int .i64) none (.t 11) (.t 12) (.c (.bool true))))⟩]) (.seq (.ops [⟨(some 13), none, (.v (.mv (.t 0)))⟩, ⟨(some 14), none, (.v (.load 1 false (.t 2)))⟩, ⟨(some 15), none, (.v (.bin .geq (.t 13) (.t 14)))⟩]) (.cond (.t 15) (.seq (.ops [⟨(some 16), none, (.v (.fld 3 (.t 3)))⟩, ⟨(some 17), none, (.v (.load 1 false (.t 16)))⟩, ⟨(some 18), none, (.v (.mv (.t 0)))⟩, ⟨(some 19), none, (.v (.load 1 false (.t 2)))⟩, ⟨(some 20), none, (.v (.bin .sub (.t 18) (.t 19)))⟩, ⟨(some 21), none, (.v (.idx 3 (.t 17) (.t 20)))⟩, ⟨(some 22), none, (.v (.fld 2 (.t 21)))⟩, ⟨(some 23), none, (.v (.load 1 false (.t 22)))⟩, ⟨(some 24), none, (.v (.len (.t 23)))⟩, ⟨(some 25), none, (.v (.mv (.c (.int .i64 0))))⟩]) (.block 0 (.loop a73_0))) .skip))))
def r73 : List AI := []
theorem f73 : Fn PP 73 5 a73 r73 := Fn.of (fn := Go.Proofs.Try.f73) (by kernel_rfl) (by kernel_rfl) (by kernel_rfl)
/-- What the closure sees. -/
def PruA (mem : Mem) (N : Net) (cs : List AV) (o5 v5 o4 v4 o1 v1 o6 v6 d dv : Nat) (s : Nat → Bool) : Prop :=
  mem o5 = .var v5 [.mp d dv] ∧ mem o4 = .var v4 [.int .i64 (N.first : Nat)] ∧ mem o1 = .var v1 cs ∧ mem o6 = .var v6 [.fn 73 [.ptr o5 v5 0, .ptr o4 v4 0, .ptr o1 v1 0, .ptr o6 v6 0]] ∧ o5 ≠ d ∧ o4 ≠ d ∧ o1 ≠ d ∧ o6 ≠ d ∧ ∃ p g, mem d = .map dv (.int .i64) none p g ∧ ∀ k : Nat, g (.int .i64 k) = if s k = true then 1 else 0
theorem p73 {N : Net} {cs : List AV} (hN : NetC cs N) (gd : N.Good) (o5 v5 o4 v4 o1 v1 o6 v6 d dv : Nat) : ∀ (M : Nat) (mem : Mem) (s : Nat → Bool) (l : Nat), l < M → l < N.nets → PruA mem N cs o5 v5 o4 v4 o1 v1 o6 v6 d dv s → CloN N s (l + 1) →
    CallW PP 73 [.int .i64 l, .ptr o5 v5 0, .ptr o4 v4 0, .ptr o1 v1 0, .ptr o6 v6 0] mem fun r m => ∃ s', PruA m N cs o5 v5 o4 v4 o1 v1 o6 v6 d dv s' ∧ MarkedN N l s s' ∧ ∀ i, i ≠ d → m i = mem i := by
  intro M
  induction M with
  | zero => exact fun _ _ _ h => absurd h (Nat.not_lt_zero _)
  | succ M IH =>
    intro mem s l hl hln hB hc
    have hB0 := hB
    obtain ⟨f0, f1, f2, f3, f4, rfl, g0, g1, g2, g3, g4⟩ := hN
    obtain ⟨h5, h4, h1, h6, n5, n4, n1, n6, p, g, hd, hg⟩ := hB
    have b1 := gd.ni; have b2 := gd.nf; have b3 := gd.ng
    have hf : N.first = 2 + N.ni + N.nf := rfl
    have hn : N.nets = N.first + N.ng := rfl
    have e5 : (o5 = d) = False := eq_false n5
    have e4 : (o4 = d) = False := eq_false n4
    have e1 : (o1 = d) = False := eq_false n1
    have e6 : (o6 = d) = False := eq_false n6
    have wr : PruA (Mem.set d (.map dv (.int .i64) none (fun q => bif keyEq q (Value.int IntKind.i64 l) then true else p q) fun q => bif keyEq q (Value.int IntKind.i64 l) then 1 else g q) mem) N [.fs N.ni f0, .fs N.no f1, .fs N.nf f2, .fs N.ng f3, .fs N.nk f4] o5 v5 o4 v4 o1 v1 o6 v6 d dv (markN s l) := by
      refine ⟨by rw [set_ne n5, h5], by rw [set_ne n4, h4], by rw [set_ne n1, h1], by rw [set_ne n6, h6], n5, n4, n1, n6, _, _, set_same _ _ _, fun k => ?_⟩
      by_cases e : k = l
      · subst e
        simp [keyEq_int, markN_it]
      · have : keyEq (Value.int IntKind.i64 k) (Value.int IntKind.i64 l) = false := by simp [keyEq_int]; omega
        simp only [this, cond_false, markN_ne e]
        exact hg k
    refine Fn.call fmix f73 ?_
    unfold a73 r73
    have hgl := hg l
    cases hs : s l with
    | true =>
      rw [hs] at hgl
      simp only [if_true] at hgl
      simp -implicitDefEqProofs only [vqa, Nat.reduceEqDiff, Nat.reduceAdd, reduceIte, Nat.reduceLeDiff, Nat.reduceBEq, Nat.reduceLT, Nat.reduceSub, Int.reduceLT, Int.reduceLE, Int.reduceEq, Int.reduceToNat, Nat.reduceMul, eq_self, implies_true, forall_const, h5, h4, h1, h6, hd, hgl]
      exact ⟨s, hB0, .same hs hc⟩
    | false =>
      rw [hs] at hgl
      simp only [Bool.false_eq_true, if_false] at hgl
      by_cases hlf : l < N.first
      · have hc1 : ¬ ((N.first : Nat) : Int) ≤ (l : Nat) := by omega
        simp -implicitDefEqProofs only [vqa, Nat.reduceEqDiff, Nat.reduceAdd, reduceIte, Nat.reduceLeDiff, Nat.reduceBEq, Nat.reduceLT, Nat.reduceSub, Int.reduceLT, Int.reduceLE, Int.reduceEq, Int.reduceToNat, Nat.reduceMul, eq_self, implies_true, forall_const, h5, h4, h1, h6, hd, hgl, e5, e4, e1, e6, hc1]
        exact ⟨_, wr, .low hlf, fun i hi => by rw [if_neg hi]⟩
      · obtain ⟨j, rfl⟩ : ∃ j, l = N.first + j := ⟨l - N.first, by omega⟩
        have hjn : j < N.ng := by omega
        have hjn' : (j : Int) < N.ng := by omega
        obtain ⟨fi, ei, hfi⟩ := g3 j hjn
        have hc1 : ((N.first : Nat) : Int) ≤ ((N.first + j : Nat) : Int) := by omega
        have hw : IntKind.i64.wrap (((N.first + j : Nat) : Int) - (N.first : Nat)) = (j : Nat) := by rw [wI (by omega) (by omega)]; omega
        simp -implicitDefEqProofs only [vqa, Nat.reduceEqDiff, Nat.reduceAdd, reduceIte, Nat.reduceLeDiff, Nat.reduceBEq, Nat.reduceLT, Nat.reduceSub, Int.reduceLT, Int.reduceLE, Int.reduceEq, Int.reduceToNat, Nat.reduceMul, eq_self, implies_true, forall_const, h5, h4, h1, h6, hd, hgl, e5, e4, e1, e6, hc1, hw, ei]
        refine ⟨⟨by omega, by omega⟩, ?_⟩
        refine vFor (N.gate j).n (fun t e m => e 4 = .ptr o6 v6 0 ∧ e 23 = .fs (N.gate j).n fi ∧ e 24 = .int .i64 (N.gate j).n ∧ e 25 = .int .i64 t ∧ ∃ s1, PruA m N [.fs N.ni f0, .fs N.no f1, .fs N.nf f2, .fs N.ng f3, .fs N.nk f4] o5 v5 o4 v4 o1 v1 o6 v6 d dv s1 ∧ MarkP N j t s s1 ∧ ∀ i, i ≠ d → m i = mem i) ?_ ?_ ?_
        · simp -implicitDefEqProofs only [vqa, Nat.reduceEqDiff, Nat.reduceAdd, reduceIte, Nat.reduceLeDiff, Nat.reduceBEq, Nat.reduceLT, Nat.reduceSub, Int.reduceLT, Int.reduceLE, Int.reduceEq, Int.reduceToNat, Nat.reduceMul, eq_self, implies_true, forall_const, h5, h4, h1, h6, hd, e5, e4, e1, e6]
          exact ⟨_, wr, .start hc, fun i hi => by rw [if_neg hi]⟩
        · rintro t e m ht ht' ⟨h4', h23, h24, h25, s1, hP, hMk, hF⟩
          have hpin := hfi t ht
          have hin := (gd.ins j hjn).1
          have hge := ((gd.ins j hjn).2.2 t ht).1
          have hpl := pin_lt gd hjn ht
          have ep : (N.gate j).ins t = ((pinN N j t : Nat) : Int) := by unfold pinN; omega
          have hP' := hP
          obtain ⟨k5, k4, k1, k6, _⟩ := hP
          unfold a73_0
          simp -implicitDefEqProofs only [vqa, Nat.reduceEqDiff, Nat.reduceAdd, reduceIte, Nat.reduceLeDiff, Nat.reduceBEq, Nat.reduceLT, Nat.reduceSub, Int.reduceLT, Int.reduceLE, Int.reduceEq, Int.reduceToNat, Nat.reduceMul, eq_self, implies_true, forall_const, h4', h23, h24, h25, ht', hpin, k6, ep]
          refine ⟨by omega, ?_⟩
          refine (IH m s1 (pinN N j t) (by omega) (by omega) hP' (fun i hi hlt hs' k hk => hMk.clo i hi (by omega) hs' k hk)).mono fun r m2 ⟨s2, hP2, hM2, hF2⟩ => ?_
          simp -implicitDefEqProofs only [vqa, Nat.reduceEqDiff, Nat.reduceAdd, reduceIte, Nat.reduceLeDiff, Nat.reduceBEq, Nat.reduceLT, Nat.reduceSub, Int.reduceLT, Int.reduceLE, Int.reduceEq, Int.reduceToNat, Nat.reduceMul, eq_self, implies_true, forall_const, h4', h23, h24, h25]
          exact ⟨ht, wI (by omega) (by omega), s2, hP2, hMk.step gd hjn ht hM2, fun i hi => (hF2 i hi).trans (hF i hi)⟩
        · rintro e m ⟨h4', h23, h24, h25, s1, hP, hMk, hF⟩
          unfold a73_0
          simp -implicitDefEqProofs only [vqa, Nat.reduceEqDiff, Nat.reduceAdd, reduceIte, Nat.reduceLeDiff, Nat.reduceBEq, Nat.reduceLT, Nat.reduceSub, Int.reduceLT, Int.reduceLE, Int.reduceEq, Int.reduceToNat, Nat.reduceMul, eq_self, implies_true, forall_const, h4', h23, h24, h25]
          exact ⟨s1, hP, hMk.fin, hF⟩
def a36_0 : AC := (.seq (.ops [⟨(some 36), none, (.v (.bin .lss (.t 35) (.t 34)))⟩]) (.seq (.cond (.t 36) .skip (.exit 0)) (.seq (.block 1 (.seq (.ops [⟨(some 37), none, (.v (.idx 1 (.t 33) (.t 35)))⟩, ⟨(some 38), none, (.v (.load 1 false (.t 37)))⟩, ⟨(some 8), none, (.v (.mv (.t 38)))⟩]) (.ops [⟨(some 39), none, (.v (.load 1 false (.t 6)))⟩, ⟨(some 40), none, (.v (.mv (.t 8)))⟩, ⟨(some 41), none, (.call (.t 39) [(.t 40)])⟩]))) (.ops [⟨(some 42), none, (.v (.bin .add (.t 35) (.c (.int .i64 1))))⟩, ⟨(some 35), none, (.v (.mv (.t 42)))⟩]))))
def a36_1 : AC := (.seq (.ops [⟨(some 51), none, (.v (.bin .lss (.t 50) (.t 49)))⟩]) (.seq (.cond (.t 51) .skip (.exit 2)) (.seq (.block 3 (.seq (.ops [⟨(some 52), none, (.v (.mv (.t 50)))⟩, ⟨(some 11), none, (.v (.mv (.t 52)))⟩]) (.block 4 (.seq (.ops [⟨(some 57), none, (.v (.mv (.t 11)))⟩, ⟨(some 58), none, (.v (.load 1 false (.t 4)))⟩, ⟨(some 59), none, (.v (.bin .lss (.t 57) (.t 58)))⟩, ⟨(some 56), none, (.v (.mv (.t 59)))⟩]) (.cond (.t 56) (.ops [⟨(some 60), none, (.v (.mv (.t 9)))⟩, ⟨(some 61), none, (.v (.mv (.t 11)))⟩, ⟨(some 62), none, (.e (.lit 62 3 1 1 [(.int .i64 0)] [(0, (.t 61))]))⟩, ⟨(some 63), none, (.e (.app 63 3 1 8 (.t 60) (.t 62)))⟩, ⟨(some 9), none, (.v (.mv (.t 63)))⟩]) (.seq (.ops [⟨(some 65), none, (.v (.load 1 false (.t 5)))⟩, ⟨(some 66), none, (.v (.mv (.t 11)))⟩, ⟨(some 67), none, (.v (.lku false (.int .i64) none (.t 65) (.t 66)))⟩, ⟨(some 64), none, (.v (.mv (.t 67)))⟩]) (.cond (.t 64) (.seq (.ops [⟨(some 68), none, (.v (.mv (.t 9)))⟩, ⟨(some 69), none, (.v (.mv (.t 10)))⟩, ⟨(some 70), none, (.e (.lit 70 3 1 1 [(.int .i64 0)] [(0, (.t 69))]))⟩, ⟨(some 71), none, (.e (.app 71 3 1 8 (.t 68) (.t 70)))⟩, ⟨(some 9), none, (.v (.mv (.t 71)))⟩]) (.ops [⟨(some 72), none, (.v (.mv (.t 10)))⟩, ⟨(some 73), none, (.v (.bin .add (.t 72) (.c (.int .i64 1))))⟩, ⟨(some 10), none, (.v (.mv (.t 73)))⟩])) (.ops [⟨(some 53), none, (.v (.mv (.t 9)))⟩, ⟨(some 54), none, (.e (.lit 54 3 1 1 [(.int .i64 0)] [(0, (.c (.int .i64 (-1))))]))⟩, ⟨(some 55), none, (.e (.app 55 3 1 8 (.t 53) (.t 54)))⟩, ⟨(some 9), none, (.v (.mv (.t 55)))⟩])))))))) (.ops [⟨(some 74), none, (.v (.bin .add (.t 50) (.c (.int .i64 1))))⟩, ⟨(some 50), none, (.v (.mv (.t 74)))⟩]))))
def a36_3 : AC := (.seq (.ops [⟨(some 102), none, (.v (.bin .lss (.t 101) (.t 100)))⟩]) (.seq (.cond (.t 102) .skip (.exit 7)) (.seq (.block 8 (.seq (.ops [⟨(some 103), none, (.v (.idx 1 (.t 99) (.t 101)))⟩, ⟨(some 104), none, (.v (.load 1 false (.t 103)))⟩, ⟨(some 17), none, (.v (.mv (.t 104)))⟩]) (.any [⟨(some 105), none, (.v (.fld 2 (.t 15)))⟩, ⟨(some 106), none, (.v (.load 1 false (.t 105)))⟩, ⟨(some 107), none, (.v (.mv (.t 9)))⟩, ⟨(some 108), none, (.v (.mv (.t 17)))⟩, ⟨(some 109), none, (.v (.idx 1 (.t 107) (.t 108)))⟩, ⟨(some 110), none, (.v (.load 1 false (.t 109)))⟩, ⟨(some 111), none, (.e (.lit 111 3 1 1 [(.int .i64 0)] [(0, (.t 110))]))⟩, ⟨(some 112), none, (.e (.app 112 3 1 8 (.t 106) (.t 111)))⟩, ⟨(some 113), none, (.v (.fld 2 (.t 15)))⟩, ⟨none, none, (.e (.store 1 (.t 113) (.t 112)))⟩] [[], [0], [], [], [2, 3], [4], [5], [1, 6], [0, 1, 2, 3, 4, 5, 6, 7], [8, 7, 7, 0, 1, 2, 3, 4, 5, 6, 7]]))) (.ops [⟨(some 114), none, (.v (.bin .add (.t 101) (.c (.int .i64 1))))⟩, ⟨(some 101), none, (.v (.mv (.t 114)))⟩]))))
def a36_2 : AC := (.seq (.ops [⟨(some 84), none, (.v (.bin .lss (.t 83) (.t 82)))⟩]) (.seq (.cond (.t 84) .skip (.exit 5)) (.seq (.block 6 (.seq (.ops [⟨(some 85), none, (.v (.mv (.t 83)))⟩, ⟨(some 86), none, (.v (.idx 3 (.t 81) (.t 83)))⟩, ⟨(some 87), none, (.v (.load 3 true (.t 86)))⟩, ⟨(some 14), none, (.e (.alloc 14 [(.int .i64 0), (.int .u64 0), .cap0]))⟩, ⟨(some 13), none, (.v (.mv (.t 85)))⟩, ⟨none, none, (.e (.store 3 (.t 14) (.t 87)))⟩]) (.seq (.ops [⟨(some 88), none, (.v (.load 1 false (.t 5)))⟩, ⟨(some 89), none, (.v (.load 1 false (.t 4)))⟩, ⟨(some 90), none, (.v (.mv (.t 13)))⟩, ⟨(some 91), none, (.v (.bin .add (.t 89) (.t 90)))⟩, ⟨(some 92), none, (.v (.lku false (.int .i64) none (.t 88) (.t 91)))⟩]) (.cond (.t 92) (.seq (.ops [⟨(some 93), none, (.v (.fld 0 (.t 14)))⟩, ⟨(some 94), none, (.v (.load 1 false (.t 93)))⟩, ⟨(some 95), none, (.v (.fld 1 (.t 14)))⟩, ⟨(some 96), none, (.v (.load 1 false (.t 95)))⟩, ⟨(some 97), none, (.v (.build [(.int .i64 0), (.int .u64 0), .cap0] [(0, (1, (.t 94))), (1, (1, (.t 96)))]))⟩, ⟨(some 15), none, (.e (.alloc 15 [(.int .i64 0), (.int .u64 0), .cap0]))⟩, ⟨none, none, (.e (.store 3 (.t 15) (.t 97)))⟩]) (.seq (.seq (.ops [⟨(some 98), none, (.v (.fld 2 (.t 14)))⟩, ⟨(some 99), none, (.v (.load 1 false (.t 98)))⟩, ⟨(some 100), none, (.v (.len (.t 99)))⟩, ⟨(some 101), none, (.v (.mv (.c (.int .i64 0))))⟩]) (.block 7 (.loop a36_3))) (.ops [⟨(some 115), none, (.v (.fld 3 (.t 12)))⟩, ⟨(some 116), none, (.v (.load 1 false (.t 115)))⟩, ⟨(some 117), none, (.v (.load 3 true (.t 15)))⟩, ⟨(some 118), none, (.e (.lit 118 127 3 1 [(.int .i64 0), (.int .u64 0), .cap0] [(0, (.t 117))]))⟩, ⟨(some 119), none, (.e (.app 119 127 3 40 (.t 116) (.t 118)))⟩, ⟨(some 120), none, (.v (.fld 3 (.t 12)))⟩, ⟨none, none, (.e (.store 1 (.t 120) (.t 119)))⟩]))) .skip)))) (.ops [⟨(some 121), none, (.v (.bin .add (.t 83) (.c (.int .i64 1))))⟩, ⟨(some 83), none, (.v (.mv (.t 121)))⟩]))))
def a36_4 : AC := (.seq (.ops [⟨(some 126), none, (.v (.bin .lss (.t 125) (.t 124)))⟩]) (.seq (.cond (.t 126) .skip (.exit 9)) (.seq (.block 10 (.seq (.ops [⟨(some 127), none, (.v (.idx 5 (.t 123) (.t 125)))⟩, ⟨(some 128), none, (.v (.load 5 true (.t 127)))⟩, ⟨(some 19), none, (.e (.alloc 19 [(.str ⟨#[]⟩), (.int .i64 0), (.int .i64 0), (.int .i64 0), (.bool false)]))⟩, ⟨none, none, (.e (.store 5 (.t 19) (.t 128)))⟩]) (.seq (.any [⟨(some 129), none, (.v (.mv (.t 9)))⟩, ⟨(some 130), none, (.v (.fld 2 (.t 19)))⟩, ⟨(some 131), none, (.v (.load 1 false (.t 130)))⟩, ⟨(some 132), none, (.v (.idx 1 (.t 129) (.t 131)))⟩, ⟨(some 133), none, (.v (.load 1 false (.t 132)))⟩, ⟨(some 134), none, (.v (.mv (.t 9)))⟩, ⟨(some 135), none, (.v (.fld 3 (.t 19)))⟩, ⟨(some 136), none, (.v (.load 1 false (.t 135)))⟩, ⟨(some 137), none, (.v (.idx 1 (.t 134) (.t 136)))⟩, ⟨(some 138), none, (.v (.load 1 false (.t 137)))⟩, ⟨(some 139), none, (.v (.fld 2 (.t 19)))⟩, ⟨none, none, (.e (.store 1 (.t 139) (.t 133)))⟩, ⟨(some 140), none, (.v (.fld 3 (.t 19)))⟩, ⟨none, none, (.e (.store 1 (.t 140) (.t 138)))⟩] [[], [], [1], [0, 2], [3], [], [], [6], [5, 7], [8], [0, 1, 2, 3, 4, 6, 7], [10, 4, 0, 1, 2, 3, 4, 6, 7], [0, 1, 2, 3, 4, 5, 6, 7, 8, 9, 10, 11], [12, 9, 11, 0, 1, 2, 3, 4, 5, 6, 7, 8, 9, 10, 11]]) (.ops [⟨(some 141), none, (.v (.fld 2 (.t 12)))⟩, ⟨(some 142), none, (.v (.load 1 false (.t 141)))⟩, ⟨(some 143), none, (.v (.load 5 true (.t 19)))⟩, ⟨(some 144), none, (.e (.lit 144 129 5 1 [(.str ⟨#[]⟩), (.int .i64 0), (.int .i64 0), (.int .i64 0), (.bool false)] [(0, (.t 143))]))⟩, ⟨(some 145), none, (.e (.app 145 129 5 48 (.t 142) (.t 144)))⟩, ⟨(some 146), none, (.v (.fld 2 (.t 12)))⟩, ⟨none, none, (.e (.store 1 (.t 146) (.t 145)))⟩])))) (.ops [⟨(some 147), none, (.v (.bin .add (.t 125) (.c (.int .i64 1))))⟩, ⟨(some 125), none, (.v (.mv (.t 147)))⟩]))))
def a36_5 : AC := (.seq (.ops [⟨(some 152), none, (.v (.bin .lss (.t 151) (.t 150)))⟩]) (.seq (.cond (.t 152) .skip (.exit 11)) (.seq (.block 12 (.seq (.ops [⟨(some 153), none, (.v (.idx 1 (.t 149) (.t 151)))⟩, ⟨(some 154), none, (.v (.load 1 false (.t 153)))⟩, ⟨(some 21), none, (.v (.mv (.t 154)))⟩]) (.any [⟨(some 155), none, (.v (.fld 4 (.t 12)))⟩, ⟨(some 156), none, (.v (.load 1 false (.t 155)))⟩, ⟨(some 157), none, (.v (.mv (.t 9)))⟩, ⟨(some 158), none, (.v (.mv (.t 21)))⟩, ⟨(some 159), none, (.v (.idx 1 (.t 157) (.t 158)))⟩, ⟨(some 160), none, (.v (.load 1 false (.t 159)))⟩, ⟨(some 161), none, (.e (.lit 161 3 1 1 [(.int .i64 0)] [(0, (.t 160))]))⟩, ⟨(some 162), none, (.e (.app 162 3 1 8 (.t 156) (.t 161)))⟩, ⟨(some 163), none, (.v (.fld 4 (.t 12)))⟩, ⟨none, none, (.e (.store 1 (.t 163) (.t 162)))⟩] [[], [0], [], [], [2, 3], [4], [5], [1, 6], [0, 1, 2, 3, 4, 5, 6, 7], [8, 7, 7, 0, 1, 2, 3, 4, 5, 6, 7]]))) (.ops [⟨(some 164), none, (.v (.bin .add (.t 151) (.c (.int .i64 1))))⟩, ⟨(some 151), none, (.v (.mv (.t 164)))⟩]))))
def a36 : AC := (.seq (.ops [⟨(some 1), none, (.e (.box 1 0 (.t 0)))⟩, ⟨(some 2), none, (.e (.alloc 2 [.cap0, .cap0, .cap0, .cap0, .cap0]))⟩, ⟨(some 3), none, (.v (.mv (.c .cap0)))⟩]) (.seq (.ops [⟨(some 22), none, (.v (.fld 0 (.t 1)))⟩, ⟨(some 23), none, (.v (.load 1 false (.t 22)))⟩, ⟨(some 24), none, (.v (.len (.t 23)))⟩, ⟨(some 25), none, (.v (.bin .add (.c (.int .i64 2)) (.t 24)))⟩, ⟨(some 26), none, (.v (.fld 2 (.t 1)))⟩, ⟨(some 27), none, (.v (.load 1 false (.t 26)))⟩, ⟨(some 28), none, (.v (.len (.t 27)))⟩, ⟨(some 29), none, (.v (.bin .add (.t 25) (.t 28)))⟩, ⟨(some 4), none, (.e (.alloc 4 [(.int .i64 0)]))⟩, ⟨none, none, (.e (.store 1 (.t 4) (.t 29)))⟩]) (.seq (.ops [⟨(some 30), none, (.e (.mkmap 30 (.int .i64) none))⟩, ⟨(some 5), none, (.e (.alloc 5 [.undef]))⟩, ⟨none, none, (.e (.store 1 (.t 5) (.t 30)))⟩]) (.seq (.ops [⟨(some 6), none, (.e (.alloc 6 [.nilf]))⟩]) (.seq (.ops [⟨(some 31), none, (.v (.mkfn 73 [(.t 5), (.t 4), (.t 1), (.t 6)]))⟩, ⟨none, none, (.e (.store 1 (.t 6) (.t 31)))⟩]) (.seq (.seq (.ops [⟨(some 32), none, (.v (.load 5 true (.t 1)))⟩, ⟨(some 33), none, (.call (.c (.fn 74 [])) [(.t 32)])⟩, ⟨(some 34), none, (.v (.len (.t 33)))⟩, ⟨(some 35), none, (.v (.mv (.c (.int .i64 0))))⟩]) (.block 0 (.loop a36_0))) (.seq (.any [⟨(some 43), none, (.e (.lit 43 3 1 0 [(.int .i64 0)] []))⟩, ⟨(some 44), none, (.v (.load 1 false (.t 4)))⟩, ⟨(some 9), none, (.v (.mv (.t 43)))⟩, ⟨(some 10), none, (.v (.mv (.t 44)))⟩] [[], [], [0, 0], [1, 2, 0, 1, 2]]) (.seq (.seq (.ops [⟨(some 45), none, (.v (.load 1 false (.t 4)))⟩, ⟨(some 46), none, (.v (.fld 3 (.t 1)))⟩, ⟨(some 47), none, (.v (.load 1 false (.t 46)))⟩, ⟨(some 48), none, (.v (.len (.t 47)))⟩, ⟨(some 49), none, (.v (.bin .add (.t 45) (.t 48)))⟩, ⟨(some 50), none, (.v (.mv (.c (.int .i64 0))))⟩]) (.block 2 (.loop a36_1))) (.seq (.ops [⟨(some 75), none, (.v (.fld 0 (.t 1)))⟩, ⟨(some 76), none, (.v (.load 1 false (.t 75)))⟩, ⟨(some 77), none, (.v (.fld 1 (.t 1)))⟩, ⟨(some 78), none, (.v (.load 1 false (.t 77)))⟩, ⟨(some 79), none, (.v (.build [.cap0, .cap0, .cap0, .cap0, .cap0] [(0, (1, (.t 76))), (1, (1, (.t 78)))]))⟩, ⟨(some 12), none, (.e (.alloc 12 [.cap0, .cap0, .cap0, .cap0, .cap0]))⟩, ⟨none, none, (.e (.store 5 (.t 12) (.t 79)))⟩]) (.seq (.seq (.ops [⟨(some 80), none, (.v (.fld 3 (.t 1)))⟩, ⟨(some 81), none, (.v (.load 1 false (.t 80)))⟩, ⟨(some 82), none, (.v (.len (.t 81)))⟩, ⟨(some 83), none, (.v (.mv (.c (.int .i64 0))))⟩]) (.block 5 (.loop a36_2))) (.seq (.seq (.ops [⟨(some 122), none, (.v (.fld 2 (.t 1)))⟩, ⟨(some 123), none, (.v (.load 1 false (.t 122)))⟩, ⟨(some 124), none, (.v (.len (.t 123)))⟩, ⟨(some 125), none, (.v (.mv (.c (.int .i64 0))))⟩]) (.block 9 (.loop a36_4))) (.seq (.seq (.ops [⟨(some 148), none, (.v (.fld 4 (.t 1)))⟩, ⟨(some 149), none, (.v (.load 1 false (.t 148)))⟩, ⟨(some 150), none, (.v (.len (.t 149)))⟩, ⟨(some 151), none, (.v (.mv (.c (.int .i64 0))))⟩]) (.block 11 (.loop a36_5))) (.seq (.ops [⟨(some 165), none, (.v (.load 5 true (.t 12)))⟩, ⟨(some 166), none, (.v (.mv (.t 9)))⟩, ⟨none, none, (.e (.store 5 (.t 2) (.t 165)))⟩, ⟨(some 3), none, (.v (.mv (.t 166)))⟩]) .ret)))))))))))))
def r36 : List AI := [(.load 5 true (.t 2)), (.mv (.t 3))]
theorem f36 : Fn PP 36 1 a36 r36 := Fn.of (fn := Go.Proofs.Try.f36) (by kernel_rfl) (by kernel_rfl) (by kernel_rfl)
theorem pushT {N : Net} {b : Nat → Bool} {i : Nat} {tg : Nat → AV} {v : Int} (h : ∀ k, k < i → tg k = .int .i64 (plcN N b k)) (hv : v = plcN N b i) : ∀ k, k < i + 1 → (bif decide (k < i) then tg k else [AV.int IntKind.i64 v].getD (k - i) .undef) = .int .i64 (plcN N b k) := fun k hk => by
  by_cases e : k < i
  · simp only [e, decide_true, cond_true]; exact h k e
  · obtain rfl : k = i := by omega
    simp only [Nat.lt_irrefl, decide_false, cond_false, Nat.sub_self, List.getD_cons_zero]
    rw [hv]
theorem gate_new {N : Net} {b : Nat → Bool} {i : Nat} (eg : selN N b N.ng (cntN N b i) = i) (f : Nat → AV) (h : ∀ q, q < (N.gate i).n → f q = .int .i64 (plcN N b (pinN N i q))) : GateA (.agg [.int .i64 (N.gate i).cell, .int .u64 (N.gate i).table, .fs (N.gate i).n f]) ((cleanN N b).gate (cntN N b i)) := by
  unfold cleanN
  simp only [eg]
  exact ⟨f, rfl, h⟩
theorem gate_wk {a : AV} {g : GateV} (h : GateA a g) : GateA (wk1 a) g := by
  obtain ⟨f, rfl, h⟩ := h
  exact ⟨f, rfl, h⟩
theorem gate_new0 {N : Net} {b : Nat → Bool} {i : Nat} (eg : selN N b N.ng (cntN N b i) = i) (h : (N.gate i).n = 0) : GateA (wk1 (.agg [.int .i64 (N.gate i).cell, .int .u64 (N.gate i).table, .cap0])) ((cleanN N b).gate (cntN N b i)) := by
  have h2 : (.agg [.int .i64 (N.gate i).cell, .int .u64 (N.gate i).table, .cap0] : AV) = .agg [.int .i64 (N.gate i).cell, .int .u64 (N.gate i).table, .cap0] := rfl
  show GateA (.agg [.int .i64 (N.gate i).cell, .int .u64 (N.gate i).table, .fs 0 fun _ => .undef]) _
  rw [← h]
  exact gate_new eg _ fun q hq => by omega
theorem p36 {N : Net} {cs : List AV} (hN : NetC cs N) (ok : N.Ok) (gd : N.Good) : Pure PP 36 [.agg cs] fun r => ∃ ds f, r = .tup [.agg ds, .fs N.nets f] ∧ NetC ds (cleanN N (keepN N)) ∧ ∀ k, k < N.nets → f k = .int .i64 (plcN N (keepN N) k) := by
  have hN0 := hN
  have p74c := p74 hN ok
  obtain ⟨f0, f1, f2, f3, f4, rfl, g0, g1, g2, g3, g4⟩ := hN
  have b1 := gd.ni; have b2 := gd.nf; have b3 := gd.ng; have b4 := gd.nk; have b5 := gd.no
  have hf : N.first = 2 + N.ni + N.nf := rfl
  have hn : N.nets = N.first + N.ng := rfl
  refine Fn.pure fmix f36 ?_
  unfold a36 r36
  simp -implicitDefEqProofs only [vqa, Nat.reduceEqDiff, Nat.reduceAdd, reduceIte, Nat.reduceLeDiff, Nat.reduceBEq, Nat.reduceLT, Nat.reduceSub, Int.reduceLT, Int.reduceLE, Int.reduceEq, Int.reduceToNat, Nat.reduceMul, eq_self, implies_true, forall_const]
  rw [wI (n := 2 + (N.ni : Int)) (by omega) (by omega), wI (n := 2 + (N.ni : Int) + N.nf) (by omega) (by omega)]
  generalize (mem0 1).ver + 1 = V1
  generalize (mem0 2).ver + 1 = V2
  generalize (mem0 4).ver + 1 = V4
  generalize (mem0 5).ver + 1 = V5
  generalize (mem0 6).ver + 1 = V6
  generalize (mem0 30).ver + 1 = VM
  refine CallW.fz p74c rfl rfl fun r ⟨fe, hr, hfe⟩ => ⟨by subst hr; rfl, ?_⟩
  subst hr
  simp -implicitDefEqProofs only [vqa, Nat.reduceEqDiff, Nat.reduceAdd, reduceIte, Nat.reduceLeDiff, Nat.reduceBEq, Nat.reduceLT, Nat.reduceSub, Int.reduceLT, Int.reduceLE, Int.reduceEq, Int.reduceToNat, Nat.reduceMul, eq_self, implies_true, forall_const]
  refine vFor (nEnd N) (fun i e m => e 1 = .ptr 1 V1 0 ∧ e 2 = .ptr 2 V2 0 ∧ m 2 = .var V2 [.cap0, .cap0, .cap0, .cap0, .cap0] ∧ e 4 = .ptr 4 V4 0 ∧ e 5 = .ptr 5 V5 0 ∧ e 6 = .ptr 6 V6 0 ∧ e 33 = .fs (nEnd N) fe ∧ e 34 = .int .i64 (nEnd N : Nat) ∧ e 35 = .int .i64 i ∧ ∃ s, PruA m N [.fs N.ni f0, .fs N.no f1, .fs N.nf f2, .fs N.ng f3, .fs N.nk f4] 5 V5 4 V4 1 V1 6 V6 30 VM s ∧ BelowN N i s) ?_ ?_ ?_
  · simp -implicitDefEqProofs only [vqa, Nat.reduceEqDiff, Nat.reduceAdd, reduceIte, Nat.reduceLeDiff, Nat.reduceBEq, Nat.reduceLT, Nat.reduceSub, Int.reduceLT, Int.reduceLE, Int.reduceEq, Int.reduceToNat, Nat.reduceMul, eq_self, implies_true, forall_const]
    exact ⟨rfl, rfl, fun _ => false, ⟨rfl, by rw [hf]; rfl, rfl, rfl, by decide, by decide, by decide, by decide, _, _, rfl, fun k => rfl⟩, .start⟩
  · rintro i e m hi hi' ⟨h1, h2, m2, h4, h5, h6, h33, h34, h35, s, hP, hB⟩
    have hfi := hfe i hi
    have hel := ends_lt gd i hi
    have ee : ends N i = ((endW N i : Nat) : Int) := by unfold endW; omega
    have hll := end_lt gd hi
    have hP' := hP
    obtain ⟨k5, k4, k1, k6, _⟩ := hP
    unfold a36_0
    simp -implicitDefEqProofs only [vqa, Nat.reduceEqDiff, Nat.reduceAdd, reduceIte, Nat.reduceLeDiff, Nat.reduceBEq, Nat.reduceLT, Nat.reduceSub, Int.reduceLT, Int.reduceLE, Int.reduceEq, Int.reduceToNat, Nat.reduceMul, eq_self, implies_true, forall_const, h1, h2, m2, h4, h5, h6, h33, h34, h35, hi', hfi, k6, ee]
    refine ⟨by omega, ?_⟩
    refine (p73 hN0 gd 5 V5 4 V4 1 V1 6 V6 30 VM _ m s (endW N i) (Nat.lt_succ_self _) hll hP' hB.clo.all).mono fun r m' ⟨s', hP2, hM2, hF2⟩ => ?_
    simp -implicitDefEqProofs only [vqa, Nat.reduceEqDiff, Nat.reduceAdd, reduceIte, Nat.reduceLeDiff, Nat.reduceBEq, Nat.reduceLT, Nat.reduceSub, Int.reduceLT, Int.reduceLE, Int.reduceEq, Int.reduceToNat, Nat.reduceMul, eq_self, implies_true, forall_const, h1, h2, h4, h5, h6, h33, h34, h35]
    exact ⟨hi, (hF2 2 (by decide)).trans m2, wI (by unfold nEnd at hi; omega) (by unfold nEnd at hi; omega), s', hP2, hB.step hi hM2⟩
  · rintro e m ⟨h1, h2, m2, h4, h5, h6, h33, h34, h35, s, hP, hB⟩
    have hs : ∀ k, s k = keepN N k := hB.keep
    obtain ⟨k5, k4, k1, k6, _, _, _, _, p, g, hd, hg⟩ := hP
    unfold a36_0
    simp -implicitDefEqProofs only [vqa, Nat.reduceEqDiff, Nat.reduceAdd, reduceIte, Nat.reduceLeDiff, Nat.reduceBEq, Nat.reduceLT, Nat.reduceSub, Int.reduceLT, Int.reduceLE, Int.reduceEq, Int.reduceToNat, Nat.reduceMul, eq_self, implies_true, forall_const, h1, h2, m2, h4, h5, h6, h33, h34, h35, k5, k4, k1]
    have hgk : ∀ k : Nat, g (.int .i64 k) = if keepN N k = true then 1 else 0 := fun k => by rw [hg k, hs k]
    clear hg
    have q4 : ∀ m, restr (oneL 4) m 4 = m 4 := fun _ => restr_one
    refine vAny [1, 0, 2, 3] 4 (oneL 4) (by kernel_rfl) (by kernel_rfl) ?_
    simp -implicitDefEqProofs only [vqa, Nat.reduceEqDiff, Nat.reduceAdd, reduceIte, Nat.reduceLeDiff, Nat.reduceBEq, Nat.reduceLT, Nat.reduceSub, Int.reduceLT, Int.reduceLE, Int.reduceEq, Int.reduceToNat, Nat.reduceMul, eq_self, implies_true, forall_const, q4, agree_one, h1, k1, h2, m2, h4, k4, h5, k5, hd]
    rw [wI (n := ((N.first : Nat) : Int) + N.ng) (by omega) (by omega)]
    generalize hb : keepN N = b at *
    refine vFor N.nets (fun i e m => e 1 = .ptr 1 V1 0 ∧ m 1 = .var V1 [.fs N.ni f0, .fs N.no f1, .fs N.nf f2, .fs N.ng f3, .fs N.nk f4] ∧ e 2 = .ptr 2 V2 0 ∧ m 2 = .var V2 [.cap0, .cap0, .cap0, .cap0, .cap0] ∧ e 4 = .ptr 4 V4 0 ∧ m 4 = .var V4 [.int .i64 (N.first : Nat)] ∧ e 5 = .ptr 5 V5 0 ∧ m 5 = .var V5 [.mp 30 VM] ∧ m 30 = .map VM (.int .i64) none p g ∧ (∃ tv tg, e 9 = .sl 43 tv i ∧ m 43 = .row tv 3 1 i tg ∧ ∀ k, k < i → tg k = .int .i64 (plcN N b k)) ∧ e 10 = .int .i64 (N.first + cntN N b (i - N.first) : Nat) ∧ e 49 = .int .i64 (N.nets : Nat) ∧ e 50 = .int .i64 i) ?_ ?_ ?_
    · simp -implicitDefEqProofs only [vqa, Nat.reduceEqDiff, Nat.reduceAdd, reduceIte, Nat.reduceLeDiff, Nat.reduceBEq, Nat.reduceLT, Nat.reduceSub, Int.reduceLT, Int.reduceLE, Int.reduceEq, Int.reduceToNat, Nat.reduceMul, eq_self, implies_true, forall_const, h1, k1, h2, m2, h4, k4, h5, k5, hd]
      exact ⟨⟨_, _, rfl, rfl⟩, by simp [cntN], by omega⟩
    · rintro i e m hi hi' ⟨h1, k1, h2, m2, h4, k4, h5, k5, hd, ⟨tv, tg, h9, m43, ht⟩, h10, h49, h50⟩
      have hgi := hgk i
      unfold a36_1
      by_cases c1 : i < N.first
      · have c1' : (i : Int) < (N.first : Nat) := by omega
        simp -implicitDefEqProofs only [vqa, Nat.reduceEqDiff, Nat.reduceAdd, reduceIte, Nat.reduceLeDiff, Nat.reduceBEq, Nat.reduceLT, Nat.reduceSub, Int.reduceLT, Int.reduceLE, Int.reduceEq, Int.reduceToNat, Nat.reduceMul, eq_self, implies_true, forall_const, h1, k1, h2, m2, h4, k4, h5, k5, hd, h9, m43, h10, h49, h50, hi', c1']
        refine ⟨⟨by omega, by omega⟩, hi, ⟨_, _, rfl, rfl, pushT ht (by unfold plcN; rw [if_pos c1])⟩, ?_, wI (by omega) (by omega)⟩
        rw [show i - N.first = 0 by omega, show i + 1 - N.first = 0 by omega]
      · have c1' : ¬ (i : Int) < (N.first : Nat) := by omega
        cases hbi : b i with
        | true =>
          rw [hbi] at hgi
          simp only [if_true] at hgi
          simp -implicitDefEqProofs only [vqa, Nat.reduceEqDiff, Nat.reduceAdd, reduceIte, Nat.reduceLeDiff, Nat.reduceBEq, Nat.reduceLT, Nat.reduceSub, Int.reduceLT, Int.reduceLE, Int.reduceEq, Int.reduceToNat, Nat.reduceMul, eq_self, implies_true, forall_const, h1, k1, h2, m2, h4, k4, h5, k5, hd, h9, m43, h10, h49, h50, hi', c1', hgi]
          have hle := cntN_le N b (i - N.first)
          have e1 : cntN N b (i + 1 - N.first) = cntN N b (i - N.first) + 1 := by
            rw [show i + 1 - N.first = (i - N.first) + 1 by omega]
            simp only [cntN]
            rw [if_pos (by rw [show N.first + (i - N.first) = i by omega]; exact hbi)]
          refine ⟨⟨by omega, by omega⟩, hi, ⟨_, _, rfl, rfl, pushT ht (by unfold plcN; rw [if_neg c1, if_pos hbi])⟩, ?_, wI (by omega) (by omega)⟩
          rw [e1, wI (by omega) (by omega)]; omega
        | false =>
          rw [hbi] at hgi
          simp only [Bool.false_eq_true, if_false] at hgi
          simp -implicitDefEqProofs only [vqa, Nat.reduceEqDiff, Nat.reduceAdd, reduceIte, Nat.reduceLeDiff, Nat.reduceBEq, Nat.reduceLT, Nat.reduceSub, Int.reduceLT, Int.reduceLE, Int.reduceEq, Int.reduceToNat, Nat.reduceMul, eq_self, implies_true, forall_const, h1, k1, h2, m2, h4, k4, h5, k5, hd, h9, m43, h10, h49, h50, hi', c1', hgi]
          have e1 : cntN N b (i + 1 - N.first) = cntN N b (i - N.first) := by
            rw [show i + 1 - N.first = (i - N.first) + 1 by omega]
            simp only [cntN]
            rw [if_neg (by rw [show N.first + (i - N.first) = i by omega, hbi]; exact Bool.noConfusion)]
          refine ⟨⟨by omega, by omega⟩, hi, ⟨_, _, rfl, rfl, pushT ht (by unfold plcN; rw [if_neg c1, if_neg (by rw [hbi]; exact Bool.noConfusion)])⟩, by rw [e1], wI (by omega) (by omega)⟩
    · rintro e m ⟨h1, k1, h2, m2, h4, k4, h5, k5, hd, ⟨tv, tg, h9, m43, ht⟩, h10, h49, h50⟩
      unfold a36_1
      simp -implicitDefEqProofs only [vqa, Nat.reduceEqDiff, Nat.reduceAdd, reduceIte, Nat.reduceLeDiff, Nat.reduceBEq, Nat.reduceLT, Nat.reduceSub, Int.reduceLT, Int.reduceLE, Int.reduceEq, Int.reduceToNat, Nat.reduceMul, eq_self, implies_true, forall_const, h1, k1, h2, m2, h4, k4, h5, k5, hd, h9, m43, h10, h49, h50]
      generalize (m 12).ver + 1 = V12
      refine vFor N.ng (fun i e m => e 1 = .ptr 1 V1 0 ∧ m 1 = .var V1 [.fs N.ni f0, .fs N.no f1, .fs N.nf f2, .fs N.ng f3, .fs N.nk f4] ∧ e 2 = .ptr 2 V2 0 ∧ m 2 = .var V2 [.cap0, .cap0, .cap0, .cap0, .cap0] ∧ e 4 = .ptr 4 V4 0 ∧ m 4 = .var V4 [.int .i64 (N.first : Nat)] ∧ e 5 = .ptr 5 V5 0 ∧ m 5 = .var V5 [.mp 30 VM] ∧ m 30 = .map VM (.int .i64) none p g ∧ e 9 = .sl 43 tv N.nets ∧ m 43 = .row tv 3 1 N.nets tg ∧ e 12 = .ptr 12 V12 0 ∧ e 81 = .fs N.ng f3 ∧ e 82 = .int .i64 N.ng ∧ e 83 = .int .i64 i ∧ ∃ xg, m 12 = .var V12 [.fs N.ni f0, .fs N.no f1, .cap0, xg, .cap0] ∧ AccP [119] 127 3 (cntN N b i) (fun j a => GateA (wk1 a) ((cleanN N b).gate j)) xg m) ?_ ?_ ?_
      · simp -implicitDefEqProofs only [vqa, Nat.reduceEqDiff, Nat.reduceAdd, reduceIte, Nat.reduceLeDiff, Nat.reduceBEq, Nat.reduceLT, Nat.reduceSub, Int.reduceLT, Int.reduceLE, Int.reduceEq, Int.reduceToNat, Nat.reduceMul, eq_self, implies_true, forall_const, h1, k1, h2, m2, h4, k4, h5, k5, hd, h9, m43]
        exact ⟨_, rfl, .inl ⟨rfl, rfl⟩⟩
      · rintro i e m hi hi' ⟨h1, k1, h2, m2, h4, k4, h5, k5, hd, h9, m43, h12, h81, h82, h83, xg, m12, hA⟩
        obtain ⟨fi, ei, hfi⟩ := g3 i hi
        have hin := (gd.ins i hi).1
        have hgi := hgk (N.first + i)
        have hw : IntKind.i64.wrap (((N.first : Nat) : Int) + (i : Nat)) = ((N.first + i : Nat) : Int) := by rw [wI (by omega) (by omega)]; omega
        unfold a36_2
        cases hbi : b (N.first + i) with
        | false =>
          rw [hbi] at hgi
          simp only [Bool.false_eq_true, if_false] at hgi
          simp -implicitDefEqProofs only [vqa, Nat.reduceEqDiff, Nat.reduceAdd, reduceIte, Nat.reduceLeDiff, Nat.reduceBEq, Nat.reduceLT, Nat.reduceSub, Int.reduceLT, Int.reduceLE, Int.reduceEq, Int.reduceToNat, Nat.reduceMul, eq_self, implies_true, forall_const, h1, k1, h2, m2, h4, k4, h5, k5, hd, h9, m43, h12, m12, h81, h82, h83, hi', ei, hw, hgi]
          have e1 : cntN N b (i + 1) = cntN N b i := by
            simp only [cntN]
            rw [if_neg (by rw [hbi]; exact Bool.noConfusion)]
          refine ⟨by omega, hi, wI (by omega) (by omega), _, rfl, ?_⟩
          rw [e1]
          exact (hA.put (by simp)).put (by simp)
        | true =>
          rw [hbi] at hgi
          simp only [if_true] at hgi
          simp -implicitDefEqProofs only [vqa, Nat.reduceEqDiff, Nat.reduceAdd, reduceIte, Nat.reduceLeDiff, Nat.reduceBEq, Nat.reduceLT, Nat.reduceSub, Int.reduceLT, Int.reduceLE, Int.reduceEq, Int.reduceToNat, Nat.reduceMul, eq_self, implies_true, forall_const, h1, k1, h2, m2, h4, k4, h5, k5, hd, h9, m43, h12, m12, h81, h82, h83, hi', ei, hw, hgi]
          refine ⟨by omega, ?_⟩
          generalize (m 14).ver + 1 = V14
          generalize (m 15).ver + 1 = V15
          have e1 : cntN N b (i + 1) = cntN N b i + 1 := by
            simp only [cntN]
            rw [if_pos hbi]
          have eg : selN N b N.ng (cntN N b i) = i := selN_cnt hbi N.ng hi
          refine vFor (N.gate i).n (fun t e m => e 1 = .ptr 1 V1 0 ∧ m 1 = .var V1 [.fs N.ni f0, .fs N.no f1, .fs N.nf f2, .fs N.ng f3, .fs N.nk f4] ∧ e 2 = .ptr 2 V2 0 ∧ m 2 = .var V2 [.cap0, .cap0, .cap0, .cap0, .cap0] ∧ e 4 = .ptr 4 V4 0 ∧ m 4 = .var V4 [.int .i64 (N.first : Nat)] ∧ e 5 = .ptr 5 V5 0 ∧ m 5 = .var V5 [.mp 30 VM] ∧ m 30 = .map VM (.int .i64) none p g ∧ e 9 = .sl 43 tv N.nets ∧ m 43 = .row tv 3 1 N.nets tg ∧ e 12 = .ptr 12 V12 0 ∧ e 81 = .fs N.ng f3 ∧ e 82 = .int .i64 N.ng ∧ e 83 = .int .i64 i ∧ m 12 = .var V12 [.fs N.ni f0, .fs N.no f1, .cap0, xg, .cap0] ∧ AccP [119] 127 3 (cntN N b i) (fun j a => GateA (wk1 a) ((cleanN N b).gate j)) xg m ∧ e 15 = .ptr 15 V15 0 ∧ e 99 = .fs (N.gate i).n fi ∧ e 100 = .int .i64 (N.gate i).n ∧ e 101 = .int .i64 t ∧ ∃ y, m 15 = .var V15 [.int .i64 (N.gate i).cell, .int .u64 (N.gate i).table, y] ∧ AccP [112] 3 1 t (fun q a => a = .int .i64 (plcN N b (pinN N i q))) y m) ?_ ?_ ?_
          · simp -implicitDefEqProofs only [vqa, Nat.reduceEqDiff, Nat.reduceAdd, reduceIte, Nat.reduceLeDiff, Nat.reduceBEq, Nat.reduceLT, Nat.reduceSub, Int.reduceLT, Int.reduceLE, Int.reduceEq, Int.reduceToNat, Nat.reduceMul, eq_self, implies_true, forall_const, h1, k1, h2, m2, h4, k4, h5, k5, hd, h9, m43, h12, m12, h81, h82, h83]
            exact ⟨((hA.put (by simp)).put (by simp)).put (by simp) |>.put (by simp), _, rfl, .inl ⟨rfl, rfl⟩⟩
          · rintro t e m hti hti' ⟨h1, k1, h2, m2, h4, k4, h5, k5, hd, h9, m43, h12, h81, h82, h83, m12, hA, h15, h99, h100, h101, y, m15, hY⟩
            have hpin := hfi t hti
            have hge := ((gd.ins i hi).2.2 t hti).1
            have hpl := pin_lt gd hi hti
            have ep : (N.gate i).ins t = ((pinN N i t : Nat) : Int) := by unfold pinN; omega
            have htt := ht (pinN N i t) (by omega)
            have q43 : ∀ m, restr (twoL 15 43) m 43 = m 43 := fun _ => restr_two2
            have q15 : ∀ m, restr (twoL 15 43) m 15 = m 15 := fun _ => restr_two1
            unfold a36_3
            rcases hY with ⟨hz, rfl⟩ | ⟨s', ver, gy, hs', rfl, hym, hyg, hyn⟩
            · simp -implicitDefEqProofs only [vqa, Nat.reduceEqDiff, Nat.reduceAdd, reduceIte, Nat.reduceLeDiff, Nat.reduceBEq, Nat.reduceLT, Nat.reduceSub, Int.reduceLT, Int.reduceLE, Int.reduceEq, Int.reduceToNat, Nat.reduceMul, eq_self, implies_true, forall_const, h1, k1, h2, m2, h4, k4, h5, k5, hd, h9, m43, h12, m12, h81, h82, h83, h15, h99, h100, h101, m15, hti', hpin, ep]
              refine ⟨by omega, ?_⟩
              refine vAny [0, 1, 2, 3, 4, 5, 6, 7, 8, 9] 9 (twoL 15 43) (by kernel_rfl) (by kernel_rfl) ?_
              simp -implicitDefEqProofs only [vqa, Nat.reduceEqDiff, Nat.reduceAdd, reduceIte, Nat.reduceLeDiff, Nat.reduceBEq, Nat.reduceLT, Nat.reduceSub, Int.reduceLT, Int.reduceLE, Int.reduceEq, Int.reduceToNat, Nat.reduceMul, eq_self, implies_true, forall_const, q43, q15, agree_two, h1, k1, h2, m2, h4, k4, h5, k5, hd, h9, m43, h12, m12, h81, h82, h83, h15, h99, h100, h101, m15, htt]
              refine ⟨⟨by omega, by omega⟩, by omega, hti, hA.keep (by intro s hs; simp at hs; subst hs; rfl), wI (by omega) (by omega), _, rfl, ?_⟩
              obtain rfl : t = 0 := hz
              exact (AccP.first (by simp) rfl).put (by simp)
            · obtain rfl : s' = 112 := by simpa using hs'
              simp -implicitDefEqProofs only [vqa, Nat.reduceEqDiff, Nat.reduceAdd, reduceIte, Nat.reduceLeDiff, Nat.reduceBEq, Nat.reduceLT, Nat.reduceSub, Int.reduceLT, Int.reduceLE, Int.reduceEq, Int.reduceToNat, Nat.reduceMul, eq_self, implies_true, forall_const, h1, k1, h2, m2, h4, k4, h5, k5, hd, h9, m43, h12, m12, h81, h82, h83, h15, h99, h100, h101, m15, hti', hpin, ep, hym]
              refine ⟨by omega, ?_⟩
              refine vAny [0, 1, 2, 3, 4, 5, 6, 7, 8, 9] 9 (twoL 15 43) (by kernel_rfl) (by kernel_rfl) ?_
              simp -implicitDefEqProofs only [vqa, Nat.reduceEqDiff, Nat.reduceAdd, reduceIte, Nat.reduceLeDiff, Nat.reduceBEq, Nat.reduceLT, Nat.reduceSub, Int.reduceLT, Int.reduceLE, Int.reduceEq, Int.reduceToNat, Nat.reduceMul, eq_self, implies_true, forall_const, q43, q15, agree_two, h1, k1, h2, m2, h4, k4, h5, k5, hd, h9, m43, h12, m12, h81, h82, h83, h15, h99, h100, h101, m15, htt, hym]
              refine ⟨⟨by omega, by omega⟩, by omega, ⟨by omega, by omega⟩, hti, hA.keep (by intro s hs; simp at hs; subst hs; rfl), wI (by omega) (by omega), _, rfl, ?_⟩
              exact AccP.put (AccP.push (by simp) hyg rfl) (by simp)
          · rintro e m ⟨h1, k1, h2, m2, h4, k4, h5, k5, hd, h9, m43, h12, h81, h82, h83, m12, hA, h15, h99, h100, h101, y, m15, hY⟩
            have hY0 := hY
            obtain ⟨fy, hyf, hyp⟩ := hY0.rs0
            unfold a36_3
            rcases hA with ⟨hz, rfl⟩ | ⟨s', ver, gy, hs', rfl, hxm, hxg, hxn⟩
            · rcases hY with ⟨hz2, rfl⟩ | ⟨s', ver, gy, hs', rfl, hym, hyg, hyn⟩
              · simp -implicitDefEqProofs only [vqa, Nat.reduceEqDiff, Nat.reduceAdd, reduceIte, Nat.reduceLeDiff, Nat.reduceBEq, Nat.reduceLT, Nat.reduceSub, Int.reduceLT, Int.reduceLE, Int.reduceEq, Int.reduceToNat, Nat.reduceMul, eq_self, implies_true, forall_const, h1, k1, h2, m2, h4, k4, h5, k5, hd, h9, m43, h12, m12, h81, h82, h83, h15, h99, h100, h101, m15]
                refine ⟨hi, wI (by omega) (by omega), _, rfl, ?_⟩
                rw [e1, hz]
                refine AccP.put (AccP.first (by simp) ?_) (by simp)
                rw [← hz]
                exact gate_new0 eg hz2
              · obtain rfl : s' = 112 := by simpa using hs'
                simp -implicitDefEqProofs only [vqa, Nat.reduceEqDiff, Nat.reduceAdd, reduceIte, Nat.reduceLeDiff, Nat.reduceBEq, Nat.reduceLT, Nat.reduceSub, Int.reduceLT, Int.reduceLE, Int.reduceEq, Int.reduceToNat, Nat.reduceMul, eq_self, implies_true, forall_const, h1, k1, h2, m2, h4, k4, h5, k5, hd, h9, m43, h12, m12, h81, h82, h83, h15, h99, h100, h101, m15, hym]
                refine ⟨hi, wI (by omega) (by omega), _, rfl, ?_⟩
                rw [e1, hz]
                refine AccP.put (AccP.first (by simp) ?_) (by simp)
                rw [← hz]
                exact gate_wk (gate_new eg _ fun q hq => hyg q hq)
            · obtain rfl : s' = 119 := by simpa using hs'
              have hc := cntN_le N b i
              rcases hY with ⟨hz2, rfl⟩ | ⟨s', ver', gy', hs', rfl, hym, hyg, hyn⟩
              · simp -implicitDefEqProofs only [vqa, Nat.reduceEqDiff, Nat.reduceAdd, reduceIte, Nat.reduceLeDiff, Nat.reduceBEq, Nat.reduceLT, Nat.reduceSub, Int.reduceLT, Int.reduceLE, Int.reduceEq, Int.reduceToNat, Nat.reduceMul, eq_self, implies_true, forall_const, h1, k1, h2, m2, h4, k4, h5, k5, hd, h9, m43, h12, m12, h81, h82, h83, h15, h99, h100, h101, m15, hxm]
                refine ⟨⟨by omega, by omega⟩, hi, wI (by omega) (by omega), _, rfl, ?_⟩
                rw [e1]
                refine AccP.put (AccP.push (by simp) hxg ?_) (by simp)
                exact gate_new0 eg hz2
              · obtain rfl : s' = 112 := by simpa using hs'
                simp -implicitDefEqProofs only [vqa, Nat.reduceEqDiff, Nat.reduceAdd, reduceIte, Nat.reduceLeDiff, Nat.reduceBEq, Nat.reduceLT, Nat.reduceSub, Int.reduceLT, Int.reduceLE, Int.reduceEq, Int.reduceToNat, Nat.reduceMul, eq_self, implies_true, forall_const, h1, k1, h2, m2, h4, k4, h5, k5, hd, h9, m43, h12, m12, h81, h82, h83, h15, h99, h100, h101, m15, hxm, hym]
                refine ⟨⟨by omega, by omega⟩, hi, wI (by omega) (by omega), _, rfl, ?_⟩
                rw [e1]
                refine AccP.put (AccP.push (by simp) hxg ?_) (by simp)
                exact gate_wk (gate_new eg _ fun q hq => hyg q hq)
      · rintro e m ⟨h1, k1, h2, m2, h4, k4, h5, k5, hd, h9, m43, h12, h81, h82, h83, xg, m12, hA⟩
        obtain ⟨mw, hSh, hAw, hfr⟩ := AccP.wk (q := fun j a => GateA a ((cleanN N b).gate j)) hA
        unfold a36_2
        simp -implicitDefEqProofs only [vqa, Nat.reduceEqDiff, Nat.reduceAdd, reduceIte, Nat.reduceLeDiff, Nat.reduceBEq, Nat.reduceLT, Nat.reduceSub, Int.reduceLT, Int.reduceLE, Int.reduceEq, Int.reduceToNat, Nat.reduceMul, eq_self, implies_true, forall_const, h1, k1, h2, m2, h4, k4, h5, k5, hd, h9, m43, h12, m12, h81, h82, h83]
        refine vForS N.nf (fun i e m => e 1 = .ptr 1 V1 0 ∧ m 1 = .var V1 [.fs N.ni f0, .fs N.no f1, .fs N.nf f2, .fs N.ng f3, .fs N.nk f4] ∧ e 2 = .ptr 2 V2 0 ∧ m 2 = .var V2 [.cap0, .cap0, .cap0, .cap0, .cap0] ∧ e 9 = .sl 43 tv N.nets ∧ m 43 = .row tv 3 1 N.nets tg ∧ e 12 = .ptr 12 V12 0 ∧ e 123 = .fs N.nf f2 ∧ e 124 = .int .i64 N.nf ∧ e 125 = .int .i64 i ∧ ∃ xf, m 12 = .var V12 [.fs N.ni f0, .fs N.no f1, xf, xg, .cap0] ∧ AccP [145] 129 5 i (fun j a => a = ((cleanN N b).flop j).av) xf m ∧ AccP [119] 127 3 (cntN N b N.ng) (fun j a => GateA a ((cleanN N b).gate j)) xg m) ?_ ?_ ?_
        · refine ⟨_, _, hSh _, ?_⟩
          simp -implicitDefEqProofs only [vqa, Nat.reduceEqDiff, Nat.reduceAdd, reduceIte, Nat.reduceLeDiff, Nat.reduceBEq, Nat.reduceLT, Nat.reduceSub, Int.reduceLT, Int.reduceLE, Int.reduceEq, Int.reduceToNat, Nat.reduceMul, eq_self, implies_true, forall_const, hfr 1 (by simp), hfr 2 (by simp), hfr 12 (by simp), hfr 43 (by simp), h1, k1, h2, m2, h4, k4, h5, k5, hd, h9, m43, h12, m12]
          exact ⟨_, rfl, .inl ⟨rfl, rfl⟩, hAw⟩
        · rintro i e m hi hi' ⟨h1, k1, h2, m2, h9, m43, h12, h123, h124, h125, xf, m12, hF, hA⟩
          have hfl := g2 i hi
          obtain ⟨⟨d0, d1⟩, d2, d3⟩ := gd.flops i hi
          have htd := ht (N.flop i).d.toNat (by omega)
          have hte := ht (N.flop i).en.toNat (by omega)
          obtain ⟨dd, edd⟩ := Int.eq_ofNat_of_zero_le d0
          obtain ⟨de, ede⟩ := Int.eq_ofNat_of_zero_le d2
          rw [edd] at htd d1
          rw [ede] at hte d3
          rw [Int.toNat_natCast] at htd hte
          unfold a36_4
          have hnew : (.agg [.str (N.flop i).name, .int .i64 (N.flop i).cell, .int .i64 (plcN N b dd), .int .i64 (plcN N b de), .bool (N.flop i).init] : AV) = ((cleanN N b).flop i).av := by
            show _ = FlopV.av ⟨(N.flop i).name, (N.flop i).cell, plcN N b (N.flop i).d.toNat, plcN N b (N.flop i).en.toNat, (N.flop i).init⟩
            rw [edd, ede]; rfl
          rcases hF with ⟨hz, rfl⟩ | ⟨s', ver, gy, hs', rfl, hxm, hxg, hxn⟩
          · skip
            simp -implicitDefEqProofs only [vqa, Nat.reduceEqDiff, Nat.reduceAdd, reduceIte, Nat.reduceLeDiff, Nat.reduceBEq, Nat.reduceLT, Nat.reduceSub, Int.reduceLT, Int.reduceLE, Int.reduceEq, Int.reduceToNat, Nat.reduceMul, eq_self, implies_true, forall_const, h1, k1, h2, m2, h9, m43, h12, m12, h123, h124, h125, hi', hfl, FlopV.av, edd, ede]
            refine ⟨by omega, ?_⟩
            generalize (m 19).ver + 1 = V19
            refine vAnyQ [0, 1, 2, 3, 4, 5, 6, 7, 8, 9, 10, 11, 12, 13] [5, 8, 9, 12] 11 (fun m => m 19 = .var V19 [.str (N.flop i).name, .int .i64 (N.flop i).cell, .int .i64 dd, .int .i64 de, .bool (N.flop i).init]) (fun m => m 43 = .row tv 3 1 N.nets tg ∧ ∃ cs, m 19 = .var V19 cs) (by kernel_rfl) (by kernel_rfl) ⟨m43, _, rfl⟩ rfl ?_
            simp -implicitDefEqProofs only [vqa, Nat.reduceEqDiff, Nat.reduceAdd, reduceIte, Nat.reduceLeDiff, Nat.reduceBEq, Nat.reduceLT, Nat.reduceSub, Int.reduceLT, Int.reduceLE, Int.reduceEq, Int.reduceToNat, Nat.reduceMul, eq_self, implies_true, forall_const, sqNil, sqCons, sqOV, sqVS, sqOE, sqES, AOp.pureB, List.any_cons, List.any_nil, Bool.false_or, Bool.or_false, Bool.true_or, Bool.or_true, h1, k1, h2, m2, h9, m43, h12, m12, h123, h124, h125, htd, hte]
            repeat' apply And.intro
            all_goals first | omega | exact hi | exact wI (by omega) (by omega) | rfl | exact ⟨_, rfl⟩ | (rintro m ⟨q1, cs, q2⟩; rw [q2]; exact ⟨_, rfl, rfl⟩) | (rintro m ⟨q1, cs, q2⟩; rw [q1]; exact ⟨_, rfl, rfl, by omega, by omega⟩) | (rintro m ⟨q1, cs, q2⟩; rw [q1]; simp only [htd, hte, AV.cells]; exact ⟨_, rfl, trivial, by omega⟩) | (rintro m ⟨q1, _⟩ q2; rw [q2]; exact ⟨_, rfl, rfl⟩) | (rintro m ⟨q1, _⟩ q2; rw [q1]; exact ⟨_, rfl, rfl, by omega, by omega⟩) | (rintro m ⟨q1, _⟩ q2; rw [q1]; simp only [htd, hte, AV.cells]; exact ⟨_, rfl, trivial, by omega⟩) | skip
            refine ⟨_, _, Shift.refl _ _, ?_⟩
            simp -implicitDefEqProofs only [vqa, Nat.reduceEqDiff, Nat.reduceAdd, reduceIte, Nat.reduceLeDiff, Nat.reduceBEq, Nat.reduceLT, Nat.reduceSub, Int.reduceLT, Int.reduceLE, Int.reduceEq, Int.reduceToNat, Nat.reduceMul, eq_self, implies_true, forall_const, h1, k1, h2, m2, h9, m43, h12, m12, h123, h124, h125]
            refine ⟨wI (by omega) (by omega), _, rfl, ?_, hA.keep (by intro s hs; simp at hs; subst hs; rfl)⟩
            obtain rfl : i = 0 := hz
            exact AccP.put (AccP.first (by simp) hnew) (by simp)
          · obtain rfl : s' = 145 := by simpa using hs'
            simp -implicitDefEqProofs only [vqa, Nat.reduceEqDiff, Nat.reduceAdd, reduceIte, Nat.reduceLeDiff, Nat.reduceBEq, Nat.reduceLT, Nat.reduceSub, Int.reduceLT, Int.reduceLE, Int.reduceEq, Int.reduceToNat, Nat.reduceMul, eq_self, implies_true, forall_const, h1, k1, h2, m2, h9, m43, h12, m12, h123, h124, h125, hi', hfl, FlopV.av, edd, ede, hxm]
            refine ⟨by omega, ?_⟩
            generalize (m 19).ver + 1 = V19
            refine vAnyQ [0, 1, 2, 3, 4, 5, 6, 7, 8, 9, 10, 11, 12, 13] [5, 8, 9, 12] 11 (fun m => m 19 = .var V19 [.str (N.flop i).name, .int .i64 (N.flop i).cell, .int .i64 dd, .int .i64 de, .bool (N.flop i).init]) (fun m => m 43 = .row tv 3 1 N.nets tg ∧ ∃ cs, m 19 = .var V19 cs) (by kernel_rfl) (by kernel_rfl) ⟨m43, _, rfl⟩ rfl ?_
            simp -implicitDefEqProofs only [vqa, Nat.reduceEqDiff, Nat.reduceAdd, reduceIte, Nat.reduceLeDiff, Nat.reduceBEq, Nat.reduceLT, Nat.reduceSub, Int.reduceLT, Int.reduceLE, Int.reduceEq, Int.reduceToNat, Nat.reduceMul, eq_self, implies_true, forall_const, sqNil, sqCons, sqOV, sqVS, sqOE, sqES, AOp.pureB, List.any_cons, List.any_nil, Bool.false_or, Bool.or_false, Bool.true_or, Bool.or_true, h1, k1, h2, m2, h9, m43, h12, m12, h123, h124, h125, htd, hte, hxm]
            repeat' apply And.intro
            all_goals first | omega | exact hi | exact wI (by omega) (by omega) | rfl | exact ⟨_, rfl⟩ | (rintro m ⟨q1, cs, q2⟩; rw [q2]; exact ⟨_, rfl, rfl⟩) | (rintro m ⟨q1, cs, q2⟩; rw [q1]; exact ⟨_, rfl, rfl, by omega, by omega⟩) | (rintro m ⟨q1, cs, q2⟩; rw [q1]; simp only [htd, hte, AV.cells]; exact ⟨_, rfl, trivial, by omega⟩) | (rintro m ⟨q1, _⟩ q2; rw [q2]; exact ⟨_, rfl, rfl⟩) | (rintro m ⟨q1, _⟩ q2; rw [q1]; exact ⟨_, rfl, rfl, by omega, by omega⟩) | (rintro m ⟨q1, _⟩ q2; rw [q1]; simp only [htd, hte, AV.cells]; exact ⟨_, rfl, trivial, by omega⟩) | skip
            refine ⟨_, _, Shift.refl _ _, ?_⟩
            simp -implicitDefEqProofs only [vqa, Nat.reduceEqDiff, Nat.reduceAdd, reduceIte, Nat.reduceLeDiff, Nat.reduceBEq, Nat.reduceLT, Nat.reduceSub, Int.reduceLT, Int.reduceLE, Int.reduceEq, Int.reduceToNat, Nat.reduceMul, eq_self, implies_true, forall_const, h1, k1, h2, m2, h9, m43, h12, m12, h123, h124, h125]
            refine ⟨wI (by omega) (by omega), _, rfl, ?_, hA.keep (by intro s hs; simp at hs; subst hs; rfl)⟩
            exact AccP.put (AccP.push (by simp) hxg hnew) (by simp)
        · rintro e m ⟨h1, k1, h2, m2, h9, m43, h12, h123, h124, h125, xf, m12, hF, hA⟩
          unfold a36_4
          simp -implicitDefEqProofs only [vqa, Nat.reduceEqDiff, Nat.reduceAdd, reduceIte, Nat.reduceLeDiff, Nat.reduceBEq, Nat.reduceLT, Nat.reduceSub, Int.reduceLT, Int.reduceLE, Int.reduceEq, Int.reduceToNat, Nat.reduceMul, eq_self, implies_true, forall_const, h1, k1, h2, m2, h9, m43, h12, m12, h123, h124, h125]
          refine vFor N.nk (fun i e m => e 1 = .ptr 1 V1 0 ∧ e 2 = .ptr 2 V2 0 ∧ m 2 = .var V2 [.cap0, .cap0, .cap0, .cap0, .cap0] ∧ e 9 = .sl 43 tv N.nets ∧ m 43 = .row tv 3 1 N.nets tg ∧ e 12 = .ptr 12 V12 0 ∧ e 149 = .fs N.nk f4 ∧ e 150 = .int .i64 N.nk ∧ e 151 = .int .i64 i ∧ AccP [145] 129 5 N.nf (fun j a => a = ((cleanN N b).flop j).av) xf m ∧ AccP [119] 127 3 (cntN N b N.ng) (fun j a => GateA a ((cleanN N b).gate j)) xg m ∧ ∃ xo, m 12 = .var V12 [.fs N.ni f0, .fs N.no f1, xf, xg, xo] ∧ AccP [162] 3 1 i (fun j a => a = .int .i64 ((cleanN N b).outs j)) xo m) ?_ ?_ ?_
          · simp -implicitDefEqProofs only [vqa, Nat.reduceEqDiff, Nat.reduceAdd, reduceIte, Nat.reduceLeDiff, Nat.reduceBEq, Nat.reduceLT, Nat.reduceSub, Int.reduceLT, Int.reduceLE, Int.reduceEq, Int.reduceToNat, Nat.reduceMul, eq_self, implies_true, forall_const, h1, k1, h2, m2, h9, m43, h12, m12]
            exact ⟨hF, hA, _, rfl, .inl ⟨rfl, rfl⟩⟩
          · rintro i e m hi hi' ⟨h1, h2, m2, h9, m43, h12, h149, h150, h151, hF, hA, xo, m12, hO⟩
            have hfo := g4 i hi
            obtain ⟨d0, d1⟩ := gd.outs i hi
            have htd := ht (N.outs i).toNat (by omega)
            obtain ⟨dd, edd⟩ := Int.eq_ofNat_of_zero_le d0
            rw [edd] at htd d1
            rw [Int.toNat_natCast] at htd
            have q43 : ∀ m, restr (twoL 12 43) m 43 = m 43 := fun _ => restr_two2
            have q12 : ∀ m, restr (twoL 12 43) m 12 = m 12 := fun _ => restr_two1
            have hnew : (.int .i64 (plcN N b dd) : AV) = .int .i64 ((cleanN N b).outs i) := by
              show _ = AV.int .i64 (plcN N b (N.outs i).toNat)
              rw [edd]; rfl
            unfold a36_5
            rcases hO with ⟨hz, rfl⟩ | ⟨s', ver, gy, hs', rfl, hxm, hxg, hxn⟩
            · simp -implicitDefEqProofs only [vqa, Nat.reduceEqDiff, Nat.reduceAdd, reduceIte, Nat.reduceLeDiff, Nat.reduceBEq, Nat.reduceLT, Nat.reduceSub, Int.reduceLT, Int.reduceLE, Int.reduceEq, Int.reduceToNat, Nat.reduceMul, eq_self, implies_true, forall_const, h1, h2, m2, h9, m43, h12, m12, h149, h150, h151, hi', hfo, edd]
              refine ⟨by omega, ?_⟩
              refine vAny [0, 1, 2, 3, 4, 5, 6, 7, 8, 9] 9 (twoL 12 43) (by kernel_rfl) (by kernel_rfl) ?_
              simp -implicitDefEqProofs only [vqa, Nat.reduceEqDiff, Nat.reduceAdd, reduceIte, Nat.reduceLeDiff, Nat.reduceBEq, Nat.reduceLT, Nat.reduceSub, Int.reduceLT, Int.reduceLE, Int.reduceEq, Int.reduceToNat, Nat.reduceMul, eq_self, implies_true, forall_const, q43, q12, agree_two, h1, h2, m2, h9, m43, h12, m12, h149, h150, h151, htd]
              refine ⟨⟨by omega, by omega⟩, by omega, hi, wI (by omega) (by omega), hF.keep (by intro s hs; simp at hs; subst hs; rfl), hA.keep (by intro s hs; simp at hs; subst hs; rfl), _, rfl, ?_⟩
              obtain rfl : i = 0 := hz
              exact AccP.put (AccP.first (by simp) hnew) (by simp)
            · obtain rfl : s' = 162 := by simpa using hs'
              simp -implicitDefEqProofs only [vqa, Nat.reduceEqDiff, Nat.reduceAdd, reduceIte, Nat.reduceLeDiff, Nat.reduceBEq, Nat.reduceLT, Nat.reduceSub, Int.reduceLT, Int.reduceLE, Int.reduceEq, Int.reduceToNat, Nat.reduceMul, eq_self, implies_true, forall_const, h1, h2, m2, h9, m43, h12, m12, h149, h150, h151, hi', hfo, edd, hxm]
              refine ⟨by omega, ?_⟩
              refine vAny [0, 1, 2, 3, 4, 5, 6, 7, 8, 9] 9 (twoL 12 43) (by kernel_rfl) (by kernel_rfl) ?_
              simp -implicitDefEqProofs only [vqa, Nat.reduceEqDiff, Nat.reduceAdd, reduceIte, Nat.reduceLeDiff, Nat.reduceBEq, Nat.reduceLT, Nat.reduceSub, Int.reduceLT, Int.reduceLE, Int.reduceEq, Int.reduceToNat, Nat.reduceMul, eq_self, implies_true, forall_const, q43, q12, agree_two, h1, h2, m2, h9, m43, h12, m12, h149, h150, h151, htd, hxm]
              refine ⟨⟨by omega, by omega⟩, by omega, ⟨by omega, by omega⟩, hi, wI (by omega) (by omega), hF.keep (by intro s hs; simp at hs; subst hs; rfl), hA.keep (by intro s hs; simp at hs; subst hs; rfl), _, rfl, ?_⟩
              exact AccP.put (AccP.push (by simp) hxg hnew) (by simp)
          · rintro e m ⟨h1, h2, m2, h9, m43, h12, h149, h150, h151, hF, hA, xo, m12, hO⟩
            have fin : ∀ (fa fb fc : Nat → AV), (∀ i, i < N.nf → fa i = ((cleanN N b).flop i).av) → (∀ i, i < cntN N b N.ng → GateA (fb i) ((cleanN N b).gate i)) → (∀ i, i < N.nk → fc i = .int .i64 ((cleanN N b).outs i)) → ∃ ds f, AV.tup [.agg [.fs N.ni f0, .fs N.no f1, .fs N.nf fa, .fs (cntN N b N.ng) fb, .fs N.nk fc], .fs N.nets tg] = .tup [.agg ds, .fs N.nets f] ∧ NetC ds (cleanN N b) ∧ ∀ k, k < N.nets → f k = .int .i64 (plcN N b k) := fun fa fb fc ha hb hc => ⟨_, _, rfl, ⟨f0, f1, fa, fb, fc, rfl, g0, g1, ha, hb, hc⟩, ht⟩
            unfold a36_5
            obtain ⟨a1, a2⟩ | ⟨aa, av, ag, aa', a2, am, ag', an⟩ := hF
            all_goals obtain ⟨c1, c2⟩ | ⟨cs, cv, cg, cs', c2, cm, cg', cn⟩ := hA
            all_goals obtain ⟨d1, d2⟩ | ⟨ds, dv, dg, ds', d2, dm, dg', dn⟩ := hO
            all_goals subst a2
            all_goals subst c2
            all_goals subst d2
            · skip
              simp -implicitDefEqProofs only [vqa, Nat.reduceEqDiff, Nat.reduceAdd, reduceIte, Nat.reduceLeDiff, Nat.reduceBEq, Nat.reduceLT, Nat.reduceSub, Int.reduceLT, Int.reduceLE, Int.reduceEq, Int.reduceToNat, Nat.reduceMul, eq_self, implies_true, forall_const, h1, h2, m2, h9, m43, h12, m12, h149, h150, h151]
              have := fin (fun _ => .undef) (fun _ => .undef) (fun _ => .undef) (fun i hi => by omega) (fun i hi => by omega) (fun i hi => by omega)
              rw [a1] at this
              rw [c1] at this
              rw [d1] at this
              exact this
            · skip
              obtain rfl : ds = 162 := by simpa using ds'
              simp -implicitDefEqProofs only [vqa, Nat.reduceEqDiff, Nat.reduceAdd, reduceIte, Nat.reduceLeDiff, Nat.reduceBEq, Nat.reduceLT, Nat.reduceSub, Int.reduceLT, Int.reduceLE, Int.reduceEq, Int.reduceToNat, Nat.reduceMul, eq_self, implies_true, forall_const, h1, h2, m2, h9, m43, h12, m12, h149, h150, h151, dm]
              have := fin (fun _ => .undef) (fun _ => .undef) dg (fun i hi => by omega) (fun i hi => by omega) dg'
              rw [a1] at this
              rw [c1] at this
              exact this
            · skip
              obtain rfl : cs = 119 := by simpa using cs'
              simp -implicitDefEqProofs only [vqa, Nat.reduceEqDiff, Nat.reduceAdd, reduceIte, Nat.reduceLeDiff, Nat.reduceBEq, Nat.reduceLT, Nat.reduceSub, Int.reduceLT, Int.reduceLE, Int.reduceEq, Int.reduceToNat, Nat.reduceMul, eq_self, implies_true, forall_const, h1, h2, m2, h9, m43, h12, m12, h149, h150, h151, cm]
              have := fin (fun _ => .undef) cg (fun _ => .undef) (fun i hi => by omega) cg' (fun i hi => by omega)
              rw [a1] at this
              rw [d1] at this
              exact this
            · skip
              obtain rfl : cs = 119 := by simpa using cs'
              obtain rfl : ds = 162 := by simpa using ds'
              simp -implicitDefEqProofs only [vqa, Nat.reduceEqDiff, Nat.reduceAdd, reduceIte, Nat.reduceLeDiff, Nat.reduceBEq, Nat.reduceLT, Nat.reduceSub, Int.reduceLT, Int.reduceLE, Int.reduceEq, Int.reduceToNat, Nat.reduceMul, eq_self, implies_true, forall_const, h1, h2, m2, h9, m43, h12, m12, h149, h150, h151, cm, dm]
              have := fin (fun _ => .undef) cg dg (fun i hi => by omega) cg' dg'
              rw [a1] at this
              exact this
            · skip
              obtain rfl : aa = 145 := by simpa using aa'
              simp -implicitDefEqProofs only [vqa, Nat.reduceEqDiff, Nat.reduceAdd, reduceIte, Nat.reduceLeDiff, Nat.reduceBEq, Nat.reduceLT, Nat.reduceSub, Int.reduceLT, Int.reduceLE, Int.reduceEq, Int.reduceToNat, Nat.reduceMul, eq_self, implies_true, forall_const, h1, h2, m2, h9, m43, h12, m12, h149, h150, h151, am]
              have := fin ag (fun _ => .undef) (fun _ => .undef) ag' (fun i hi => by omega) (fun i hi => by omega)
              rw [c1] at this
              rw [d1] at this
              exact this
            · skip
              obtain rfl : aa = 145 := by simpa using aa'
              obtain rfl : ds = 162 := by simpa using ds'
              simp -implicitDefEqProofs only [vqa, Nat.reduceEqDiff, Nat.reduceAdd, reduceIte, Nat.reduceLeDiff, Nat.reduceBEq, Nat.reduceLT, Nat.reduceSub, Int.reduceLT, Int.reduceLE, Int.reduceEq, Int.reduceToNat, Nat.reduceMul, eq_self, implies_true, forall_const, h1, h2, m2, h9, m43, h12, m12, h149, h150, h151, am, dm]
              have := fin ag (fun _ => .undef) dg ag' (fun i hi => by omega) dg'
              rw [c1] at this
              exact this
            · skip
              obtain rfl : aa = 145 := by simpa using aa'
              obtain rfl : cs = 119 := by simpa using cs'
              simp -implicitDefEqProofs only [vqa, Nat.reduceEqDiff, Nat.reduceAdd, reduceIte, Nat.reduceLeDiff, Nat.reduceBEq, Nat.reduceLT, Nat.reduceSub, Int.reduceLT, Int.reduceLE, Int.reduceEq, Int.reduceToNat, Nat.reduceMul, eq_self, implies_true, forall_const, h1, h2, m2, h9, m43, h12, m12, h149, h150, h151, am, cm]
              have := fin ag cg (fun _ => .undef) ag' cg' (fun i hi => by omega)
              rw [d1] at this
              exact this
            · skip
              obtain rfl : aa = 145 := by simpa using aa'
              obtain rfl : cs = 119 := by simpa using cs'
              obtain rfl : ds = 162 := by simpa using ds'
              simp -implicitDefEqProofs only [vqa, Nat.reduceEqDiff, Nat.reduceAdd, reduceIte, Nat.reduceLeDiff, Nat.reduceBEq, Nat.reduceLT, Nat.reduceSub, Int.reduceLT, Int.reduceLE, Int.reduceEq, Int.reduceToNat, Nat.reduceMul, eq_self, implies_true, forall_const, h1, h2, m2, h9, m43, h12, m12, h149, h150, h151, am, cm, dm]
              have := fin ag cg dg ag' cg' dg'
              exact this
end Go.Ab
