/- Walks: Cone, Support and slices.DeleteFunc. -/
import Derived.Test.YtodncnlnadgkhabSaGCone
import Derived.Test.YtodncnlnadgkhabFwW
set_option linter.unusedSimpArgs false
set_option linter.unusedVariables false
namespace Go.Ab
open Go
def a90 : AC := (.seq (.ops [⟨(some 3), none, (.v (.mv (.c (.bool false))))⟩]) (.seq (.ops [⟨(some 4), none, (.v (.mv (.t 0)))⟩, ⟨(some 5), none, (.v (.bin .eql (.t 4) (.c (.int .i64 0))))⟩, ⟨(some 6), none, (.v (.mv (.t 5)))⟩, ⟨(some 7), (some (6, false)), (.v (.mv (.t 0)))⟩, ⟨(some 8), (some (6, false)), (.v (.load 5 true (.t 1)))⟩, ⟨(some 9), (some (6, false)), (.call (.c (.fn 24 [])) [(.t 8)])⟩, ⟨(some 10), (some (6, false)), (.v (.bin .geq (.t 7) (.t 9)))⟩, ⟨(some 11), none, (.v (.pick (.t 6) (.c (.bool true)) (.t 10)))⟩, ⟨(some 3), none, (.v (.mv (.t 11)))⟩]) .ret))
def r90 : List AI := [(.mv (.t 3))]
theorem f90 : Fn PP 90 2 a90 r90 := Fn.of (fn := Go.Proofs.Try.f90) (by kernel_rfl) (by kernel_rfl) (by kernel_rfl)
def a108_0 : AC := (.seq (.ops [⟨(some 9), none, (.v (.bin .lss (.t 8) (.t 7)))⟩]) (.seq (.cond (.t 9) .skip (.exit 0)) (.seq (.block 1 (.seq (.ops [⟨(some 10), none, (.v (.mv (.t 8)))⟩, ⟨(some 5), none, (.v (.mv (.t 10)))⟩]) (.seq (.ops [⟨(some 11), none, (.v (.mv (.t 1)))⟩, ⟨(some 12), none, (.v (.mv (.t 0)))⟩, ⟨(some 13), none, (.v (.mv (.t 5)))⟩, ⟨(some 14), none, (.v (.idx 1 (.t 12) (.t 13)))⟩, ⟨(some 15), none, (.v (.load 1 false (.t 14)))⟩, ⟨(some 16), none, (.call (.t 11) [(.t 15)])⟩]) (.cond (.t 16) (.seq (.ops [⟨(some 17), none, (.v (.mv (.t 5)))⟩, ⟨(some 4), none, (.v (.mv (.t 17)))⟩]) .ret) .skip)))) (.ops [⟨(some 18), none, (.v (.bin .add (.t 8) (.c (.int .i64 1))))⟩, ⟨(some 8), none, (.v (.mv (.t 18)))⟩]))))
def a108 : AC := (.seq (.ops [⟨(some 4), none, (.v (.mv (.c (.int .i64 0))))⟩]) (.seq (.seq (.ops [⟨(some 6), none, (.v (.mv (.t 0)))⟩, ⟨(some 7), none, (.v (.len (.t 6)))⟩, ⟨(some 8), none, (.v (.mv (.c (.int .i64 0))))⟩]) (.block 0 (.loop a108_0))) (.seq (.ops [⟨(some 4), none, (.v (.mv (.c (.int .i64 (-1)))))⟩]) .ret)))
def r108 : List AI := [(.mv (.t 4))]
theorem f108 : Fn PP 108 2 a108 r108 := Fn.of (fn := Go.Proofs.Try.f108) (by kernel_rfl) (by kernel_rfl) (by kernel_rfl)
def a89_0 : AC := (.seq (.seq (.ops [⟨(some 16), none, (.v (.mv (.t 6)))⟩, ⟨(some 17), none, (.v (.mv (.t 0)))⟩, ⟨(some 18), none, (.v (.len (.t 17)))⟩, ⟨(some 19), none, (.v (.bin .lss (.t 16) (.t 18)))⟩]) (.cond (.t 19) .skip (.exit 0))) (.seq (.block 1 (.seq (.ops [⟨(some 22), none, (.v (.mv (.t 0)))⟩, ⟨(some 23), none, (.v (.mv (.t 6)))⟩, ⟨(some 24), none, (.v (.idx 1 (.t 22) (.t 23)))⟩, ⟨(some 25), none, (.v (.load 1 false (.t 24)))⟩, ⟨(some 7), none, (.v (.mv (.t 25)))⟩]) (.seq (.ops [⟨(some 26), none, (.v (.mv (.t 1)))⟩, ⟨(some 27), none, (.v (.mv (.t 7)))⟩, ⟨(some 28), none, (.call (.t 26) [(.t 27)])⟩, ⟨(some 29), none, (.v (.not (.t 28)))⟩]) (.cond (.t 29) (.seq (.ops [⟨(some 30), none, (.v (.mv (.t 0)))⟩, ⟨(some 31), none, (.v (.mv (.t 5)))⟩, ⟨(some 32), none, (.v (.mv (.t 7)))⟩, ⟨(some 33), none, (.v (.idx 1 (.t 30) (.t 31)))⟩, ⟨none, none, (.e (.store 1 (.t 33) (.t 32)))⟩]) (.ops [⟨(some 34), none, (.v (.mv (.t 5)))⟩, ⟨(some 35), none, (.v (.bin .add (.t 34) (.c (.int .i64 1))))⟩, ⟨(some 5), none, (.v (.mv (.t 35)))⟩])) .skip)))) (.ops [⟨(some 20), none, (.v (.mv (.t 6)))⟩, ⟨(some 21), none, (.v (.bin .add (.t 20) (.c (.int .i64 1))))⟩, ⟨(some 6), none, (.v (.mv (.t 21)))⟩])))
def a89 : AC := (.seq (.ops [⟨(some 4), none, (.v (.mv (.c .cap0)))⟩]) (.seq (.ops [⟨(some 8), none, (.v (.mv (.t 0)))⟩, ⟨(some 9), none, (.v (.mv (.t 1)))⟩, ⟨(some 10), none, (.call (.c (.fn 108 [])) [(.t 8), (.t 9)])⟩, ⟨(some 5), none, (.v (.mv (.t 10)))⟩]) (.seq (.seq (.ops [⟨(some 11), none, (.v (.mv (.t 5)))⟩, ⟨(some 12), none, (.v (.bin .eql (.t 11) (.c (.int .i64 (-1)))))⟩]) (.cond (.t 12) (.seq (.ops [⟨(some 13), none, (.v (.mv (.t 0)))⟩, ⟨(some 4), none, (.v (.mv (.t 13)))⟩]) .ret) .skip)) (.seq (.seq (.ops [⟨(some 14), none, (.v (.mv (.t 5)))⟩, ⟨(some 15), none, (.v (.bin .add (.t 14) (.c (.int .i64 1))))⟩, ⟨(some 6), none, (.v (.mv (.t 15)))⟩]) (.block 0 (.loop a89_0))) (.seq (.ops [⟨(some 36), none, (.v (.mv (.t 0)))⟩, ⟨(some 37), none, (.v (.mv (.t 5)))⟩, ⟨(some 38), none, (.v (.slc 1 (.t 36) (some (.t 37)) none))⟩, ⟨none, none, (.e (.clr [(.int .i64 0)] (.t 38)))⟩]) (.seq (.ops [⟨(some 39), none, (.v (.mv (.t 0)))⟩, ⟨(some 40), none, (.v (.mv (.t 5)))⟩, ⟨(some 41), none, (.v (.slc 1 (.t 39) none (some (.t 40))))⟩, ⟨(some 4), none, (.v (.mv (.t 41)))⟩]) .ret))))))
def r89 : List AI := [(.mv (.t 4))]
theorem f89 : Fn PP 89 2 a89 r89 := Fn.of (fn := Go.Proofs.Try.f89) (by kernel_rfl) (by kernel_rfl) (by kernel_rfl)
def b50_0 (b : Nat) : AC := (.seq (.ops [⟨(some 20), none, (.v (.bin .lss (.t 19) (.t 18)))⟩]) (.seq (.cond (.t 20) .skip (.exit 0)) (.seq (.block 1 (.seq (.ops [⟨(some 21), none, (.v (.idx 1 (.t 17) (.t 19)))⟩, ⟨(some 22), none, (.v (.load 1 false (.t 21)))⟩, ⟨(some 8), none, (.v (.mv (.t 22)))⟩]) (.seq (.ops [⟨(some 23), none, (.v (.mv (.t 8)))⟩, ⟨(some 24), none, (.v (.load 5 true (.t 2)))⟩, ⟨(some 25), none, (.call (.c (.fn 25 [])) [(.t 24)])⟩, ⟨(some 26), none, (.call (.c (.fn 74 [])) [(.t 23), (.t 25)])⟩, ⟨(some 27), none, (.v (.not (.t 26)))⟩]) (.cond (.t 27) (.seq (.ops [⟨(some 4), none, (.v (.mv (.c .cap0)))⟩, ⟨(some 5), none, (.v (.mv (.c (.int .i64 2))))⟩]) .ret) .skip)))) (.ops [⟨(some 28), none, (.v (.bin .add (.t 19) (.c (.int .i64 1))))⟩, ⟨(some 19), none, (.v (.mv (.t 28)))⟩]))))
def b50_1 (b : Nat) : AC := (.seq (.ops [⟨(some 34), none, (.v (.bin .lss (.t 33) (.t 32)))⟩]) (.seq (.cond (.t 34) .skip (.exit 2)) (.seq (.block 3 (.seq (.ops [⟨(some 35), none, (.v (.mv (.t 33)))⟩, ⟨(some 36), none, (.v (.idx 1 (.t 31) (.t 33)))⟩, ⟨(some 37), none, (.v (.load 1 false (.t 36)))⟩, ⟨(some 10), none, (.v (.mv (.t 35)))⟩, ⟨(some 11), none, (.v (.mv (.t 37)))⟩]) (.seq (.ops [⟨(some 38), none, (.v (.mv (.t 11)))⟩]) (.cond (.t 38) (.ops [⟨(some 39), none, (.v (.mv (.t 9)))⟩, ⟨(some 40), none, (.v (.mv (.t 10)))⟩, ⟨(some 41), none, (.e (.lit (b + 41) 3 1 1 [(.int .i64 0)] [(0, (.t 40))]))⟩, ⟨(some 42), none, (.e (.app (b + 42) 3 1 8 (.t 39) (.t 41)))⟩, ⟨(some 9), none, (.v (.mv (.t 42)))⟩]) .skip)))) (.ops [⟨(some 43), none, (.v (.bin .add (.t 33) (.c (.int .i64 1))))⟩, ⟨(some 33), none, (.v (.mv (.t 43)))⟩]))))
def b50 (b : Nat) : AC := (.seq (.ops [⟨(some 2), none, (.e (.box (b + 2) 0 (.t 0)))⟩, ⟨(some 4), none, (.v (.mv (.c .cap0)))⟩, ⟨(some 5), none, (.v (.mv (.c (.int .i64 0))))⟩]) (.seq (.seq (.ops [⟨(some 12), none, (.v (.load 5 true (.t 2)))⟩, ⟨(some 13), none, (.call (.c (.fn 29 [])) [(.t 12)])⟩, ⟨(some 6), none, (.v (.mv (.t 13)))⟩]) (.seq (.ops [⟨(some 14), none, (.v (.mv (.t 6)))⟩, ⟨(some 15), none, (.v (.bin .neq (.t 14) (.c (.int .i64 0))))⟩]) (.cond (.t 15) (.seq (.ops [⟨(some 16), none, (.v (.mv (.t 6)))⟩, ⟨(some 4), none, (.v (.mv (.c .cap0)))⟩, ⟨(some 5), none, (.v (.mv (.t 16)))⟩]) .ret) .skip))) (.seq (.seq (.ops [⟨(some 17), none, (.v (.mv (.t 1)))⟩, ⟨(some 18), none, (.v (.len (.t 17)))⟩, ⟨(some 19), none, (.v (.mv (.c (.int .i64 0))))⟩]) (.block 0 (.loop (b50_0 b)))) (.seq (.ops [⟨(some 9), none, (.v (.mv (.c .cap0)))⟩]) (.seq (.seq (.ops [⟨(some 29), none, (.v (.load 5 true (.t 2)))⟩, ⟨(some 30), none, (.v (.mv (.t 1)))⟩, ⟨(some 31), none, (.call (.c (.fn 88 [])) [(.t 29), (.t 30)])⟩, ⟨(some 32), none, (.v (.len (.t 31)))⟩, ⟨(some 33), none, (.v (.mv (.c (.int .i64 0))))⟩]) (.block 2 (.loop (b50_1 b)))) (.seq (.ops [⟨(some 44), none, (.v (.mv (.t 9)))⟩, ⟨(some 4), none, (.v (.mv (.t 44)))⟩, ⟨(some 5), none, (.v (.mv (.c (.int .i64 0))))⟩]) .ret))))))
def q50 : List AI := [(.mv (.t 4)), (.mv (.t 5))]
theorem g50 (b : Nat) : Fn PP 50 2 (b50 b) q50 := Fn.ofB b (fn := Go.Proofs.Try.f50) (by kernel_rfl) (by kernel_rfl) (by kernel_rfl)
def a51 : AC := (.seq (.ops [⟨(some 2), none, (.e (.box 2 0 (.t 0)))⟩, ⟨(some 4), none, (.v (.mv (.c .cap0)))⟩, ⟨(some 5), none, (.v (.mv (.c (.int .i64 0))))⟩]) (.seq (.ops [⟨(some 9), none, (.v (.load 5 true (.t 2)))⟩, ⟨(some 10), none, (.v (.mv (.t 1)))⟩, ⟨(some 11), none, (.call (.c (.fn 50 [])) [(.t 9), (.t 10)])⟩, ⟨(some 8), none, (.v (.mv (.t 11)))⟩, ⟨(some 12), none, (.v (.ext 0 (.t 8)))⟩, ⟨(some 13), none, (.v (.ext 1 (.t 8)))⟩, ⟨(some 6), none, (.v (.mv (.t 12)))⟩, ⟨(some 7), none, (.v (.mv (.t 13)))⟩]) (.seq (.seq (.ops [⟨(some 14), none, (.v (.mv (.t 7)))⟩, ⟨(some 15), none, (.v (.bin .neq (.t 14) (.c (.int .i64 0))))⟩]) (.cond (.t 15) (.seq (.ops [⟨(some 16), none, (.v (.mv (.t 7)))⟩, ⟨(some 4), none, (.v (.mv (.c .cap0)))⟩, ⟨(some 5), none, (.v (.mv (.t 16)))⟩]) .ret) .skip)) (.seq (.ops [⟨(some 17), none, (.v (.mv (.t 6)))⟩, ⟨(some 18), none, (.v (.mkfn 90 [(.t 2)]))⟩, ⟨(some 19), none, (.call (.c (.fn 89 [])) [(.t 17), (.t 18)])⟩, ⟨(some 4), none, (.v (.mv (.t 19)))⟩, ⟨(some 5), none, (.v (.mv (.c (.int .i64 0))))⟩]) .ret))))
def r51 : List AI := [(.mv (.t 4)), (.mv (.t 5))]
theorem f51 : Fn PP 51 2 a51 r51 := Fn.of (fn := Go.Proofs.Try.f51) (by kernel_rfl) (by kernel_rfl) (by kernel_rfl)
def iv (k : Nat) : AV := .int .i64 (k : Nat)
/-- Is a node none of an input or a register? -/
def dlB (G : Gra) (k : Nat) : Bool := decide (k = 0 ∨ G.base ≤ k)
def kpL (b : Nat → Bool) : Nat → List Nat
  | 0 => []
  | n + 1 => if b n then kpL b n ++ [n] else kpL b n
def filL (x : Nat → Nat) (d : Nat → Bool) : Nat → List Nat
  | 0 => []
  | n + 1 => if d (x n) then filL x d n else filL x d n ++ [x n]
theorem kpL_len (b : Nat → Bool) : ∀ n, (kpL b n).length ≤ n
  | 0 => Nat.le_refl _
  | n + 1 => by
    have := kpL_len b n
    unfold kpL; split
    · simp; exact this
    · omega
theorem filL_len (x : Nat → Nat) (d : Nat → Bool) : ∀ n, (filL x d n).length ≤ n
  | 0 => Nat.le_refl _
  | n + 1 => by
    have := filL_len x d n
    unfold filL; split
    · omega
    · simp; exact this
theorem filL_all {x : Nat → Nat} {d : Nat → Bool} : ∀ k, (∀ i, i < k → d (x i) = false) → (filL x d k).length = k ∧ ∀ q, q < k → (filL x d k).getD q 0 = x q
  | 0, _ => ⟨rfl, fun q hq => absurd hq (Nat.not_lt_zero _)⟩
  | k + 1, h => by
    obtain ⟨h1, h2⟩ := filL_all k (fun i hi => h i (by omega))
    have e : filL x d (k + 1) = filL x d k ++ [x k] := by
      show (if d (x k) then _ else _) = _
      rw [h k (by omega)]; rfl
    rw [e]
    refine ⟨by simp [h1], fun q hq => ?_⟩
    by_cases hk : q < k
    · rw [← h2 q hk, List.getD_eq_getElem?_getD, List.getD_eq_getElem?_getD, List.getElem?_append_left (by omega)]
    · obtain rfl : q = k := by omega
      rw [List.getD_eq_getElem?_getD, List.getElem?_append_right (by omega), h1]; simp
theorem filL_range (x : Nat → Nat) (d : Nat → Bool) : ∀ n, filL x d n = ((List.range n).map x).filter (fun k => !d k)
  | 0 => rfl
  | n + 1 => by
    rw [List.range_succ, List.map_append, List.filter_append, ← filL_range x d n]
    have e : filL x d (n + 1) = if d (x n) then filL x d n else filL x d n ++ [x n] := rfl
    rw [e]
    cases h : d (x n) <;> simp [h]
theorem filL_kp (b d : Nat → Bool) (n : Nat) : filL (fun j => (kpL b n).getD j 0) d (kpL b n).length = kpL (fun k => b k && !d k) n := by
  rw [filL_range]
  have e : (List.range (kpL b n).length).map (fun j => (kpL b n).getD j 0) = kpL b n := by
    apply List.ext_getElem
    · simp
    · intro i h1 h2
      simp at h1 ⊢
      simp [h1]
  rw [e]
  clear e
  induction n with
  | zero => rfl
  | succ n ih =>
    unfold kpL
    cases hb : b n
    · simp [ih]
    · cases hd : d n <;> simp [ih, hd]
theorem getD_iv (L : List Nat) {j : Nat} (h : j < L.length) : (L.map iv).getD j .undef = iv (L.getD j 0) := by
  simp [List.getD_eq_getElem?_getD, h]

theorem p90 {G : Gra} {cs : List AV} (hG : GraC cs G) (ok : G.Ok) (k : Nat) : Pure PP 90 [.int .i64 (k : Nat), .fp cs] fun r => r = .bool (dlB G k) := by
  have pF := p24 hG ok
  obtain ⟨f0, f1, f2, f3, f4, rfl, g0, g1, g2, g3, g4⟩ := hG
  refine Fn.pure fmix f90 ?_
  unfold a90 r90
  simp -implicitDefEqProofs only [vq0, vq1, vq2, vq3, vq4, vq5, vq6, vq7, vq8, vq9, vqc, vqj, vqf, AI.val, EI.run, binI, kEq, env0, RetF, retL, retV, frzAL, part?, List.drop, List.take, List.all, List.length, List.map, List.append, List.nil_append, List.cons_append, List.append_nil, List.getD_cons_zero, List.getD_cons_succ, List.getD_nil, Option.map_some, Option.map_none, cond_true, cond_false, Nat.reduceEqDiff, Nat.reduceAdd, reduceIte, eq_self, IntKind.bits, litA, appSrc, frzV, frzL, mkElt, List.replicate, List.set, Nat.reduceLeDiff, Nat.reduceBEq, Nat.reduceLT, decide_true, decide_false, List.getElem?_cons_zero, List.getElem?_cons_succ, List.getElem?_nil, Nat.reduceSub, gt_iff_lt, ge_iff_le, Int.reduceLT, Int.reduceLE, Int.reduceEq, Int.cast_ofNat_Int, Int.reduceToNat, implies_true, forall_const, Nat.reduceMul, keyV, elN, eqCells, binS, Ret, newElt, fillA, bound, aidxV, slcO]
  refine ⟨fun h => ?_, fun h => ?_⟩
  · refine CallW.sc pF rfl ⟨⟨trivial, trivial, trivial, trivial, trivial, trivial⟩, trivial⟩ fun r hr => ⟨by subst hr; rfl, ?_⟩
    subst hr
    simp -implicitDefEqProofs only [vq0, vq1, vq2, vq3, vq4, vq5, vq6, vq7, vq8, vq9, vqc, vqj, vqf, AI.val, EI.run, binI, kEq, env0, RetF, retL, retV, frzAL, part?, List.drop, List.take, List.all, List.length, List.map, List.append, List.nil_append, List.cons_append, List.append_nil, List.getD_cons_zero, List.getD_cons_succ, List.getD_nil, Option.map_some, Option.map_none, cond_true, cond_false, Nat.reduceEqDiff, Nat.reduceAdd, reduceIte, eq_self, IntKind.bits, litA, appSrc, frzV, frzL, mkElt, List.replicate, List.set, Nat.reduceLeDiff, Nat.reduceBEq, Nat.reduceLT, decide_true, decide_false, List.getElem?_cons_zero, List.getElem?_cons_succ, List.getElem?_nil, Nat.reduceSub, gt_iff_lt, ge_iff_le, Int.reduceLT, Int.reduceLE, Int.reduceEq, Int.cast_ofNat_Int, Int.reduceToNat, implies_true, forall_const, Nat.reduceMul, keyV, elN, eqCells, binS, Ret, newElt, fillA, bound, aidxV, slcO]
    have : k ≠ 0 := by omega
    simp [dlB, this]
  · have : k = 0 := by omega
    simp [dlB, this]

theorem p108 {G : Gra} {cs : List AV} (hG : GraC cs G) (ok : G.Ok) (n : Nat) (x : Nat → Nat) (f : Nat → AV) (hf : ∀ i, i < n → f i = iv (x i)) (hn : n ≤ 16777216) : Pure PP 108 [.fs n f, .fn 90 [.fp cs]] fun r => ∃ j : Int, r = .int .i64 j ∧ ((j = -1 ∧ ∀ i, i < n → dlB G (x i) = false) ∨ ∃ k : Nat, k < n ∧ j = k ∧ dlB G (x k) = true ∧ ∀ i, i < k → dlB G (x i) = false) := by
  have hG0 := hG
  obtain ⟨f0, f1, f2, f3, f4, rfl, g0, g1, g2, g3, g4⟩ := hG
  refine Fn.pure fmix f108 ?_
  unfold a108 r108
  simp -implicitDefEqProofs only [vq0, vq1, vq2, vq3, vq4, vq5, vq6, vq7, vq8, vq9, vqc, vqj, vqf, AI.val, EI.run, binI, kEq, env0, RetF, retL, retV, frzAL, part?, List.drop, List.take, List.all, List.length, List.map, List.append, List.nil_append, List.cons_append, List.append_nil, List.getD_cons_zero, List.getD_cons_succ, List.getD_nil, Option.map_some, Option.map_none, cond_true, cond_false, Nat.reduceEqDiff, Nat.reduceAdd, reduceIte, eq_self, IntKind.bits, litA, appSrc, frzV, frzL, mkElt, List.replicate, List.set, Nat.reduceLeDiff, Nat.reduceBEq, Nat.reduceLT, decide_true, decide_false, List.getElem?_cons_zero, List.getElem?_cons_succ, List.getElem?_nil, Nat.reduceSub, gt_iff_lt, ge_iff_le, Int.reduceLT, Int.reduceLE, Int.reduceEq, Int.cast_ofNat_Int, Int.reduceToNat, implies_true, forall_const, Nat.reduceMul, keyV, elN, eqCells, binS, Ret, newElt, fillA, bound, aidxV, slcO]
  refine vFor n (fun i e m => e 0 = .fs n f ∧ e 1 = .fn 90 [.fp [.fs G.ni f0, .fs G.no f1, .fs G.nr f2, .fs G.na f3, .fs G.nk f4]] ∧ e 7 = .int .i64 n ∧ e 8 = .int .i64 i ∧ ∀ j, j < i → dlB G (x j) = false) ?_ ?_ ?_
  · simp -implicitDefEqProofs only [vq0, vq1, vq2, vq3, vq4, vq5, vq6, vq7, vq8, vq9, vqc, vqj, vqf, AI.val, EI.run, binI, kEq, env0, RetF, retL, retV, frzAL, part?, List.drop, List.take, List.all, List.length, List.map, List.append, List.nil_append, List.cons_append, List.append_nil, List.getD_cons_zero, List.getD_cons_succ, List.getD_nil, Option.map_some, Option.map_none, cond_true, cond_false, Nat.reduceEqDiff, Nat.reduceAdd, reduceIte, eq_self, IntKind.bits, litA, appSrc, frzV, frzL, mkElt, List.replicate, List.set, Nat.reduceLeDiff, Nat.reduceBEq, Nat.reduceLT, decide_true, decide_false, List.getElem?_cons_zero, List.getElem?_cons_succ, List.getElem?_nil, Nat.reduceSub, gt_iff_lt, ge_iff_le, Int.reduceLT, Int.reduceLE, Int.reduceEq, Int.cast_ofNat_Int, Int.reduceToNat, implies_true, forall_const, Nat.reduceMul, keyV, elN, eqCells, binS, Ret, newElt, fillA, bound, aidxV, slcO]
  · rintro i e m hi hi' ⟨h0, h1, h7, h8, hs⟩
    have hfi := hf i hi
    unfold iv at hfi
    unfold a108_0
    simp -implicitDefEqProofs only [vq0, vq1, vq2, vq3, vq4, vq5, vq6, vq7, vq8, vq9, vqc, vqj, vqf, AI.val, EI.run, binI, kEq, env0, RetF, retL, retV, frzAL, part?, List.drop, List.take, List.all, List.length, List.map, List.append, List.nil_append, List.cons_append, List.append_nil, List.getD_cons_zero, List.getD_cons_succ, List.getD_nil, Option.map_some, Option.map_none, cond_true, cond_false, Nat.reduceEqDiff, Nat.reduceAdd, reduceIte, eq_self, IntKind.bits, litA, appSrc, frzV, frzL, mkElt, List.replicate, List.set, Nat.reduceLeDiff, Nat.reduceBEq, Nat.reduceLT, decide_true, decide_false, List.getElem?_cons_zero, List.getElem?_cons_succ, List.getElem?_nil, Nat.reduceSub, gt_iff_lt, ge_iff_le, Int.reduceLT, Int.reduceLE, Int.reduceEq, Int.cast_ofNat_Int, Int.reduceToNat, implies_true, forall_const, Nat.reduceMul, keyV, elN, eqCells, binS, Ret, newElt, fillA, bound, aidxV, slcO, h0, h1, h7, h8, hi', hfi]
    refine ⟨by omega, ?_⟩
    refine CallW.sc (p90 hG0 ok (x i)) rfl ⟨trivial, trivial, trivial⟩ fun r hr => ⟨by subst hr; rfl, ?_⟩
    subst hr
    cases hd : dlB G (x i)
    · simp -implicitDefEqProofs only [vq0, vq1, vq2, vq3, vq4, vq5, vq6, vq7, vq8, vq9, vqc, vqj, vqf, AI.val, EI.run, binI, kEq, env0, RetF, retL, retV, frzAL, part?, List.drop, List.take, List.all, List.length, List.map, List.append, List.nil_append, List.cons_append, List.append_nil, List.getD_cons_zero, List.getD_cons_succ, List.getD_nil, Option.map_some, Option.map_none, cond_true, cond_false, Nat.reduceEqDiff, Nat.reduceAdd, reduceIte, eq_self, IntKind.bits, litA, appSrc, frzV, frzL, mkElt, List.replicate, List.set, Nat.reduceLeDiff, Nat.reduceBEq, Nat.reduceLT, decide_true, decide_false, List.getElem?_cons_zero, List.getElem?_cons_succ, List.getElem?_nil, Nat.reduceSub, gt_iff_lt, ge_iff_le, Int.reduceLT, Int.reduceLE, Int.reduceEq, Int.cast_ofNat_Int, Int.reduceToNat, implies_true, forall_const, Nat.reduceMul, keyV, elN, eqCells, binS, Ret, newElt, fillA, bound, aidxV, slcO, h0, h1, h7, h8]
      refine ⟨hi, wI (by omega) (by omega), fun j hj => ?_⟩
      by_cases ej : j = i
      · rw [ej]; exact hd
      · exact hs j (by omega)
    · simp -implicitDefEqProofs only [vq0, vq1, vq2, vq3, vq4, vq5, vq6, vq7, vq8, vq9, vqc, vqj, vqf, AI.val, EI.run, binI, kEq, env0, RetF, retL, retV, frzAL, part?, List.drop, List.take, List.all, List.length, List.map, List.append, List.nil_append, List.cons_append, List.append_nil, List.getD_cons_zero, List.getD_cons_succ, List.getD_nil, Option.map_some, Option.map_none, cond_true, cond_false, Nat.reduceEqDiff, Nat.reduceAdd, reduceIte, eq_self, IntKind.bits, litA, appSrc, frzV, frzL, mkElt, List.replicate, List.set, Nat.reduceLeDiff, Nat.reduceBEq, Nat.reduceLT, decide_true, decide_false, List.getElem?_cons_zero, List.getElem?_cons_succ, List.getElem?_nil, Nat.reduceSub, gt_iff_lt, ge_iff_le, Int.reduceLT, Int.reduceLE, Int.reduceEq, Int.cast_ofNat_Int, Int.reduceToNat, implies_true, forall_const, Nat.reduceMul, keyV, elN, eqCells, binS, Ret, newElt, fillA, bound, aidxV, slcO, h0, h1, h7, h8]
      exact ⟨_, rfl, .inr ⟨i, hi, rfl, hd, hs⟩⟩
  · rintro e m ⟨h0, h1, h7, h8, hs⟩
    unfold a108_0
    simp -implicitDefEqProofs only [vq0, vq1, vq2, vq3, vq4, vq5, vq6, vq7, vq8, vq9, vqc, vqj, vqf, AI.val, EI.run, binI, kEq, env0, RetF, retL, retV, frzAL, part?, List.drop, List.take, List.all, List.length, List.map, List.append, List.nil_append, List.cons_append, List.append_nil, List.getD_cons_zero, List.getD_cons_succ, List.getD_nil, Option.map_some, Option.map_none, cond_true, cond_false, Nat.reduceEqDiff, Nat.reduceAdd, reduceIte, eq_self, IntKind.bits, litA, appSrc, frzV, frzL, mkElt, List.replicate, List.set, Nat.reduceLeDiff, Nat.reduceBEq, Nat.reduceLT, decide_true, decide_false, List.getElem?_cons_zero, List.getElem?_cons_succ, List.getElem?_nil, Nat.reduceSub, gt_iff_lt, ge_iff_le, Int.reduceLT, Int.reduceLE, Int.reduceEq, Int.cast_ofNat_Int, Int.reduceToNat, implies_true, forall_const, Nat.reduceMul, keyV, elN, eqCells, binS, Ret, newElt, fillA, bound, aidxV, slcO, h0, h1, h7, h8]
    exact ⟨_, rfl, .inl ⟨rfl, hs⟩⟩

theorem p89 {G : Gra} {cs : List AV} (hG : GraC cs G) (ok : G.Ok) {mem : Mem} {id ver o vo n : Nat} {x : Nat → Nat} {g : Nat → AV} (ho : mem o = .var vo cs) (hm : mem id = .row ver 3 1 n g) (hg : ∀ i, i < n → g i = iv (x i)) (hn : n ≤ 16777216) :
    CallW PP 89 [.sl id ver n, .fn 90 [.ptr o vo 0]] mem fun v m => ∃ h, v = .sl id ver (filL x (dlB G) n).length ∧ m id = .row ver 3 1 n h ∧ (∀ j, j < (filL x (dlB G) n).length → h j = iv ((filL x (dlB G) n).getD j 0)) ∧ ∀ i, i ≠ id → m i = mem i := by
  have hne : o ≠ id := fun e => by rw [e, hm] at ho; cases ho
  have hG0 := hG
  obtain ⟨f0, f1, f2, f3, f4, rfl, g0, g1, g2, g3, g4⟩ := hG
  refine Fn.call fmix f89 ?_
  unfold a89 r89
  simp -implicitDefEqProofs only [vq0, vq1, vq2, vq3, vq4, vq5, vq6, vq7, vq8, vq9, vqc, vqj, vqf, AI.val, EI.run, binI, kEq, env0, RetF, retL, retV, frzAL, part?, List.drop, List.take, List.all, List.length, List.map, List.append, List.nil_append, List.cons_append, List.append_nil, List.getD_cons_zero, List.getD_cons_succ, List.getD_nil, Option.map_some, Option.map_none, cond_true, cond_false, Nat.reduceEqDiff, Nat.reduceAdd, reduceIte, eq_self, IntKind.bits, litA, appSrc, frzV, frzL, mkElt, List.replicate, List.set, Nat.reduceLeDiff, Nat.reduceBEq, Nat.reduceLT, decide_true, decide_false, List.getElem?_cons_zero, List.getElem?_cons_succ, List.getElem?_nil, Nat.reduceSub, gt_iff_lt, ge_iff_le, Int.reduceLT, Int.reduceLE, Int.reduceEq, Int.cast_ofNat_Int, Int.reduceToNat, implies_true, forall_const, Nat.reduceMul, keyV, elN, eqCells, binS, Ret, newElt, fillA, bound, aidxV, slcO]
  refine CallW.sc (p108 hG0 ok n x g hg hn) ?_ ?_ fun r ⟨j, hr, hj⟩ => ⟨by subst hr; rfl, ?_⟩
  · simp only [rsC, rs2, rs1, rs0, vq0, vq1, vq2, vq3, vq4, vq5, vq6, vq7, vq8, vq9, vqc, vqj, vqf, AI.val, EI.run, binI, kEq, env0, RetF, retL, retV, frzAL, part?, List.drop, List.take, List.all, List.length, List.map, List.append, List.nil_append, List.cons_append, List.append_nil, List.getD_cons_zero, List.getD_cons_succ, List.getD_nil, Option.map_some, Option.map_none, cond_true, cond_false, Nat.reduceEqDiff, Nat.reduceAdd, reduceIte, eq_self, IntKind.bits, litA, appSrc, frzV, frzL, mkElt, List.replicate, List.set, Nat.reduceLeDiff, Nat.reduceBEq, Nat.reduceLT, decide_true, decide_false, List.getElem?_cons_zero, List.getElem?_cons_succ, List.getElem?_nil, Nat.reduceSub, gt_iff_lt, ge_iff_le, Int.reduceLT, Int.reduceLE, Int.reduceEq, Int.cast_ofNat_Int, Int.reduceToNat, implies_true, forall_const, Nat.reduceMul, keyV, elN, eqCells, binS, Ret, newElt, fillA, bound, aidxV, slcO, hm, ho]
  · simp only [rsC, rs2, rs1, rs0, vq0, vq1, vq2, vq3, vq4, vq5, vq6, vq7, vq8, vq9, vqc, vqj, vqf, AI.val, EI.run, binI, kEq, env0, RetF, retL, retV, frzAL, part?, List.drop, List.take, List.all, List.length, List.map, List.append, List.nil_append, List.cons_append, List.append_nil, List.getD_cons_zero, List.getD_cons_succ, List.getD_nil, Option.map_some, Option.map_none, cond_true, cond_false, Nat.reduceEqDiff, Nat.reduceAdd, reduceIte, eq_self, IntKind.bits, litA, appSrc, frzV, frzL, mkElt, List.replicate, List.set, Nat.reduceLeDiff, Nat.reduceBEq, Nat.reduceLT, decide_true, decide_false, List.getElem?_cons_zero, List.getElem?_cons_succ, List.getElem?_nil, Nat.reduceSub, gt_iff_lt, ge_iff_le, Int.reduceLT, Int.reduceLE, Int.reduceEq, Int.cast_ofNat_Int, Int.reduceToNat, implies_true, forall_const, Nat.reduceMul, keyV, elN, eqCells, binS, Ret, newElt, fillA, bound, aidxV, slcO, hm, ho]
  subst hr
  obtain ⟨rfl, hall⟩ | ⟨k, hk, rfl, hd, hall⟩ := hj
  · obtain ⟨e1, e2⟩ := filL_all n hall
    simp -implicitDefEqProofs only [vq0, vq1, vq2, vq3, vq4, vq5, vq6, vq7, vq8, vq9, vqc, vqj, vqf, AI.val, EI.run, binI, kEq, env0, RetF, retL, retV, frzAL, part?, List.drop, List.take, List.all, List.length, List.map, List.append, List.nil_append, List.cons_append, List.append_nil, List.getD_cons_zero, List.getD_cons_succ, List.getD_nil, Option.map_some, Option.map_none, cond_true, cond_false, Nat.reduceEqDiff, Nat.reduceAdd, reduceIte, eq_self, IntKind.bits, litA, appSrc, frzV, frzL, mkElt, List.replicate, List.set, Nat.reduceLeDiff, Nat.reduceBEq, Nat.reduceLT, decide_true, decide_false, List.getElem?_cons_zero, List.getElem?_cons_succ, List.getElem?_nil, Nat.reduceSub, gt_iff_lt, ge_iff_le, Int.reduceLT, Int.reduceLE, Int.reduceEq, Int.cast_ofNat_Int, Int.reduceToNat, implies_true, forall_const, Nat.reduceMul, keyV, elN, eqCells, binS, Ret, newElt, fillA, bound, aidxV, slcO]
    exact ⟨g, by rw [e1], hm, fun j hj => by rw [e2 j (by omega)]; exact hg j (by omega)⟩
  · have hkn : (k : Int) ≠ -1 := by omega
    simp -implicitDefEqProofs only [vq0, vq1, vq2, vq3, vq4, vq5, vq6, vq7, vq8, vq9, vqc, vqj, vqf, AI.val, EI.run, binI, kEq, env0, RetF, retL, retV, frzAL, part?, List.drop, List.take, List.all, List.length, List.map, List.append, List.nil_append, List.cons_append, List.append_nil, List.getD_cons_zero, List.getD_cons_succ, List.getD_nil, Option.map_some, Option.map_none, cond_true, cond_false, Nat.reduceEqDiff, Nat.reduceAdd, reduceIte, eq_self, IntKind.bits, litA, appSrc, frzV, frzL, mkElt, List.replicate, List.set, Nat.reduceLeDiff, Nat.reduceBEq, Nat.reduceLT, decide_true, decide_false, List.getElem?_cons_zero, List.getElem?_cons_succ, List.getElem?_nil, Nat.reduceSub, gt_iff_lt, ge_iff_le, Int.reduceLT, Int.reduceLE, Int.reduceEq, Int.cast_ofNat_Int, Int.reduceToNat, implies_true, forall_const, Nat.reduceMul, keyV, elN, eqCells, binS, Ret, newElt, fillA, bound, aidxV, slcO, hkn]
    have hid : Nat.beq id id = true := Nat.beq_refl _
    obtain ⟨e1, e2⟩ := filL_all k hall
    have e3 : filL x (dlB G) (k + 1) = filL x (dlB G) k := by
      show (if dlB G (x k) then _ else _) = _
      rw [hd]; rfl
    refine vFor (n - (k + 1)) (fun t e m => e 0 = .sl id ver n ∧ e 1 = .fn 90 [.ptr o vo 0] ∧ e 5 = .int .i64 ((filL x (dlB G) (k + 1 + t)).length : Nat) ∧ e 6 = .int .i64 (k + 1 + t : Nat) ∧ (∃ h, m id = .row ver 3 1 n h ∧ (∀ q, q < (filL x (dlB G) (k + 1 + t)).length → h q = iv ((filL x (dlB G) (k + 1 + t)).getD q 0)) ∧ ∀ q, k + 1 + t ≤ q → q < n → h q = iv (x q)) ∧ ∀ i, i ≠ id → m i = mem i) ?_ ?_ ?_
    · simp -implicitDefEqProofs only [vq0, vq1, vq2, vq3, vq4, vq5, vq6, vq7, vq8, vq9, vqc, vqj, vqf, AI.val, EI.run, binI, kEq, env0, RetF, retL, retV, frzAL, part?, List.drop, List.take, List.all, List.length, List.map, List.append, List.nil_append, List.cons_append, List.append_nil, List.getD_cons_zero, List.getD_cons_succ, List.getD_nil, Option.map_some, Option.map_none, cond_true, cond_false, Nat.reduceEqDiff, Nat.reduceAdd, reduceIte, eq_self, IntKind.bits, litA, appSrc, frzV, frzL, mkElt, List.replicate, List.set, Nat.reduceLeDiff, Nat.reduceBEq, Nat.reduceLT, decide_true, decide_false, List.getElem?_cons_zero, List.getElem?_cons_succ, List.getElem?_nil, Nat.reduceSub, gt_iff_lt, ge_iff_le, Int.reduceLT, Int.reduceLE, Int.reduceEq, Int.cast_ofNat_Int, Int.reduceToNat, implies_true, forall_const, Nat.reduceMul, keyV, elN, eqCells, binS, Ret, newElt, fillA, bound, aidxV, slcO, Nat.add_zero]
      refine ⟨by rw [e3, e1], wI (by omega) (by omega), ⟨g, hm, fun q hq => ?_, fun q _ hq => hg q hq⟩⟩
      rw [e3, e1] at hq
      rw [e3, e2 q hq]
      exact hg q (by omega)
    · rintro t e m ht ht' ⟨h0, h1, h5, h6, ⟨h, mi, hh1, hh2⟩, hF⟩
      have hlt : ((k + 1 + t : Nat) : Int) < (n : Int) := by omega
      have mo := (hF o hne).trans ho
      have hl := filL_len x (dlB G) (k + 1 + t)
      have hx := hh2 (k + 1 + t) (Nat.le_refl _) (by omega)
      unfold iv at hx
      have ef : filL x (dlB G) (k + 1 + (t + 1)) = if dlB G (x (k + 1 + t)) then filL x (dlB G) (k + 1 + t) else filL x (dlB G) (k + 1 + t) ++ [x (k + 1 + t)] := rfl
      unfold a89_0
      simp -implicitDefEqProofs only [vq0, vq1, vq2, vq3, vq4, vq5, vq6, vq7, vq8, vq9, vqc, vqj, vqf, AI.val, EI.run, binI, kEq, env0, RetF, retL, retV, frzAL, part?, List.drop, List.take, List.all, List.length, List.map, List.append, List.nil_append, List.cons_append, List.append_nil, List.getD_cons_zero, List.getD_cons_succ, List.getD_nil, Option.map_some, Option.map_none, cond_true, cond_false, Nat.reduceEqDiff, Nat.reduceAdd, reduceIte, eq_self, IntKind.bits, litA, appSrc, frzV, frzL, mkElt, List.replicate, List.set, Nat.reduceLeDiff, Nat.reduceBEq, Nat.reduceLT, decide_true, decide_false, List.getElem?_cons_zero, List.getElem?_cons_succ, List.getElem?_nil, Nat.reduceSub, gt_iff_lt, ge_iff_le, Int.reduceLT, Int.reduceLE, Int.reduceEq, Int.cast_ofNat_Int, Int.reduceToNat, implies_true, forall_const, Nat.reduceMul, keyV, elN, eqCells, binS, Ret, newElt, fillA, bound, aidxV, slcO, h0, h1, h5, h6, mi, hlt, hx]
      refine ⟨by omega, by omega, ?_⟩
      refine CallW.sc (p90 hG0 ok (x (k + 1 + t))) ?_ ?_ fun r hr => ⟨by subst hr; rfl, ?_⟩
      · simp only [rsC, rs2, rs1, rs0, vq0, vq1, vq2, vq3, vq4, vq5, vq6, vq7, vq8, vq9, vqc, vqj, vqf, AI.val, EI.run, binI, kEq, env0, RetF, retL, retV, frzAL, part?, List.drop, List.take, List.all, List.length, List.map, List.append, List.nil_append, List.cons_append, List.append_nil, List.getD_cons_zero, List.getD_cons_succ, List.getD_nil, Option.map_some, Option.map_none, cond_true, cond_false, Nat.reduceEqDiff, Nat.reduceAdd, reduceIte, eq_self, IntKind.bits, litA, appSrc, frzV, frzL, mkElt, List.replicate, List.set, Nat.reduceLeDiff, Nat.reduceBEq, Nat.reduceLT, decide_true, decide_false, List.getElem?_cons_zero, List.getElem?_cons_succ, List.getElem?_nil, Nat.reduceSub, gt_iff_lt, ge_iff_le, Int.reduceLT, Int.reduceLE, Int.reduceEq, Int.cast_ofNat_Int, Int.reduceToNat, implies_true, forall_const, Nat.reduceMul, keyV, elN, eqCells, binS, Ret, newElt, fillA, bound, aidxV, slcO, mo]
      · simp only [rsC, rs2, rs1, rs0, vq0, vq1, vq2, vq3, vq4, vq5, vq6, vq7, vq8, vq9, vqc, vqj, vqf, AI.val, EI.run, binI, kEq, env0, RetF, retL, retV, frzAL, part?, List.drop, List.take, List.all, List.length, List.map, List.append, List.nil_append, List.cons_append, List.append_nil, List.getD_cons_zero, List.getD_cons_succ, List.getD_nil, Option.map_some, Option.map_none, cond_true, cond_false, Nat.reduceEqDiff, Nat.reduceAdd, reduceIte, eq_self, IntKind.bits, litA, appSrc, frzV, frzL, mkElt, List.replicate, List.set, Nat.reduceLeDiff, Nat.reduceBEq, Nat.reduceLT, decide_true, decide_false, List.getElem?_cons_zero, List.getElem?_cons_succ, List.getElem?_nil, Nat.reduceSub, gt_iff_lt, ge_iff_le, Int.reduceLT, Int.reduceLE, Int.reduceEq, Int.cast_ofNat_Int, Int.reduceToNat, implies_true, forall_const, Nat.reduceMul, keyV, elN, eqCells, binS, Ret, newElt, fillA, bound, aidxV, slcO, mo]
      subst hr
      cases hd2 : dlB G (x (k + 1 + t))
      · rw [hd2] at ef
        simp only [Bool.false_eq_true, if_false] at ef
        simp -implicitDefEqProofs only [vq0, vq1, vq2, vq3, vq4, vq5, vq6, vq7, vq8, vq9, vqc, vqj, vqf, AI.val, EI.run, binI, kEq, env0, RetF, retL, retV, frzAL, part?, List.drop, List.take, List.all, List.length, List.map, List.append, List.nil_append, List.cons_append, List.append_nil, List.getD_cons_zero, List.getD_cons_succ, List.getD_nil, Option.map_some, Option.map_none, cond_true, cond_false, Nat.reduceEqDiff, Nat.reduceAdd, reduceIte, eq_self, IntKind.bits, litA, appSrc, frzV, frzL, mkElt, List.replicate, List.set, Nat.reduceLeDiff, Nat.reduceBEq, Nat.reduceLT, decide_true, decide_false, List.getElem?_cons_zero, List.getElem?_cons_succ, List.getElem?_nil, Nat.reduceSub, gt_iff_lt, ge_iff_le, Int.reduceLT, Int.reduceLE, Int.reduceEq, Int.cast_ofNat_Int, Int.reduceToNat, implies_true, forall_const, Nat.reduceMul, keyV, elN, eqCells, binS, Ret, newElt, fillA, bound, aidxV, slcO, h0, h1, h5, h6, mi]
        rw [ef]
        generalize filL x (dlB G) (k + 1 + t) = L at *
        have hll : (L ++ [x (k + 1 + t)]).length = L.length + 1 := by simp
        rw [hll]
        refine ⟨by omega, by omega, ht, wI (by omega) (by omega), wI (by omega) (by omega), ⟨_, rfl, fun q hq => ?_, fun q h1 h2 => ?_⟩, fun i hi => ?_⟩
        · by_cases e : q = L.length
          · subst e
            simp only [decide_true, cond_true]
            rw [List.getD_eq_getElem?_getD, List.getElem?_append_right (Nat.le_refl _)]
            simp [iv]
          · simp only [e, decide_false, cond_false]
            rw [hh1 q (by omega), List.getD_eq_getElem?_getD, List.getD_eq_getElem?_getD, List.getElem?_append_left (by omega)]
        · simp only [show ¬ q = L.length by omega, decide_false, cond_false]
          exact hh2 q (by omega) h2
        · rw [if_neg hi]; exact hF i hi
      · rw [hd2] at ef
        simp only [if_true] at ef
        simp -implicitDefEqProofs only [vq0, vq1, vq2, vq3, vq4, vq5, vq6, vq7, vq8, vq9, vqc, vqj, vqf, AI.val, EI.run, binI, kEq, env0, RetF, retL, retV, frzAL, part?, List.drop, List.take, List.all, List.length, List.map, List.append, List.nil_append, List.cons_append, List.append_nil, List.getD_cons_zero, List.getD_cons_succ, List.getD_nil, Option.map_some, Option.map_none, cond_true, cond_false, Nat.reduceEqDiff, Nat.reduceAdd, reduceIte, eq_self, IntKind.bits, litA, appSrc, frzV, frzL, mkElt, List.replicate, List.set, Nat.reduceLeDiff, Nat.reduceBEq, Nat.reduceLT, decide_true, decide_false, List.getElem?_cons_zero, List.getElem?_cons_succ, List.getElem?_nil, Nat.reduceSub, gt_iff_lt, ge_iff_le, Int.reduceLT, Int.reduceLE, Int.reduceEq, Int.cast_ofNat_Int, Int.reduceToNat, implies_true, forall_const, Nat.reduceMul, keyV, elN, eqCells, binS, Ret, newElt, fillA, bound, aidxV, slcO, h0, h1, h5, h6, mi]
        rw [ef]
        exact ⟨ht, rfl, wI (by omega) (by omega), ⟨h, rfl, hh1, fun q h1 h2 => hh2 q (by omega) h2⟩, hF⟩
    · rintro e m ⟨h0, h1, h5, h6, ⟨h, mi, hh1, hh2⟩, hF⟩
      have en : k + 1 + (n - (k + 1)) = n := by omega
      rw [en] at h5 h6 hh1 hh2
      have hl := filL_len x (dlB G) n
      unfold a89_0
      simp -implicitDefEqProofs only [vq0, vq1, vq2, vq3, vq4, vq5, vq6, vq7, vq8, vq9, vqc, vqj, vqf, AI.val, EI.run, binI, kEq, env0, RetF, retL, retV, frzAL, part?, List.drop, List.take, List.all, List.length, List.map, List.append, List.nil_append, List.cons_append, List.append_nil, List.getD_cons_zero, List.getD_cons_succ, List.getD_nil, Option.map_some, Option.map_none, cond_true, cond_false, Nat.reduceEqDiff, Nat.reduceAdd, reduceIte, eq_self, IntKind.bits, litA, appSrc, frzV, frzL, mkElt, List.replicate, List.set, Nat.reduceLeDiff, Nat.reduceBEq, Nat.reduceLT, decide_true, decide_false, List.getElem?_cons_zero, List.getElem?_cons_succ, List.getElem?_nil, Nat.reduceSub, gt_iff_lt, ge_iff_le, Int.reduceLT, Int.reduceLE, Int.reduceEq, Int.cast_ofNat_Int, Int.reduceToNat, implies_true, forall_const, Nat.reduceMul, keyV, elN, eqCells, binS, Ret, newElt, fillA, bound, aidxV, slcO, h0, h1, h5, h6, mi]
      refine ⟨by omega, by omega, _, rfl, fun j hj => ?_, fun i hi => ?_⟩
      · simp only [show ¬ (filL x (dlB G) n).length ≤ j by omega, decide_false, Bool.false_and, cond_false]
        exact hh1 j hj
      · rw [if_neg hi]; exact hF i hi

theorem p89z {G : Gra} {cs : List AV} (hG : GraC cs G) (ok : G.Ok) {mem : Mem} {o vo : Nat} (ho : mem o = .var vo cs) :
    CallW PP 89 [.cap0, .fn 90 [.ptr o vo 0]] mem fun v m => v = .cap0 ∧ m = mem := by
  have hG0 := hG
  obtain ⟨f0, f1, f2, f3, f4, rfl, g0, g1, g2, g3, g4⟩ := hG
  refine Fn.call fmix f89 ?_
  unfold a89 r89
  simp -implicitDefEqProofs only [vq0, vq1, vq2, vq3, vq4, vq5, vq6, vq7, vq8, vq9, vqc, vqj, vqf, AI.val, EI.run, binI, kEq, env0, RetF, retL, retV, frzAL, part?, List.drop, List.take, List.all, List.length, List.map, List.append, List.nil_append, List.cons_append, List.append_nil, List.getD_cons_zero, List.getD_cons_succ, List.getD_nil, Option.map_some, Option.map_none, cond_true, cond_false, Nat.reduceEqDiff, Nat.reduceAdd, reduceIte, eq_self, IntKind.bits, litA, appSrc, frzV, frzL, mkElt, List.replicate, List.set, Nat.reduceLeDiff, Nat.reduceBEq, Nat.reduceLT, decide_true, decide_false, List.getElem?_cons_zero, List.getElem?_cons_succ, List.getElem?_nil, Nat.reduceSub, gt_iff_lt, ge_iff_le, Int.reduceLT, Int.reduceLE, Int.reduceEq, Int.cast_ofNat_Int, Int.reduceToNat, implies_true, forall_const, Nat.reduceMul, keyV, elN, eqCells, binS, Ret, newElt, fillA, bound, aidxV, slcO]
  refine CallW.sc (p108 hG0 ok 0 (fun _ => 0) (fun _ => .undef) (fun i hi => absurd hi (Nat.not_lt_zero _)) (by decide)) ?_ ?_ fun r ⟨j, hr, hj⟩ => ⟨by subst hr; rfl, ?_⟩
  · simp only [rsC, rs2, rs1, rs0, vq0, vq1, vq2, vq3, vq4, vq5, vq6, vq7, vq8, vq9, vqc, vqj, vqf, AI.val, EI.run, binI, kEq, env0, RetF, retL, retV, frzAL, part?, List.drop, List.take, List.all, List.length, List.map, List.append, List.nil_append, List.cons_append, List.append_nil, List.getD_cons_zero, List.getD_cons_succ, List.getD_nil, Option.map_some, Option.map_none, cond_true, cond_false, Nat.reduceEqDiff, Nat.reduceAdd, reduceIte, eq_self, IntKind.bits, litA, appSrc, frzV, frzL, mkElt, List.replicate, List.set, Nat.reduceLeDiff, Nat.reduceBEq, Nat.reduceLT, decide_true, decide_false, List.getElem?_cons_zero, List.getElem?_cons_succ, List.getElem?_nil, Nat.reduceSub, gt_iff_lt, ge_iff_le, Int.reduceLT, Int.reduceLE, Int.reduceEq, Int.cast_ofNat_Int, Int.reduceToNat, implies_true, forall_const, Nat.reduceMul, keyV, elN, eqCells, binS, Ret, newElt, fillA, bound, aidxV, slcO, ho]
  · simp only [rsC, rs2, rs1, rs0, vq0, vq1, vq2, vq3, vq4, vq5, vq6, vq7, vq8, vq9, vqc, vqj, vqf, AI.val, EI.run, binI, kEq, env0, RetF, retL, retV, frzAL, part?, List.drop, List.take, List.all, List.length, List.map, List.append, List.nil_append, List.cons_append, List.append_nil, List.getD_cons_zero, List.getD_cons_succ, List.getD_nil, Option.map_some, Option.map_none, cond_true, cond_false, Nat.reduceEqDiff, Nat.reduceAdd, reduceIte, eq_self, IntKind.bits, litA, appSrc, frzV, frzL, mkElt, List.replicate, List.set, Nat.reduceLeDiff, Nat.reduceBEq, Nat.reduceLT, decide_true, decide_false, List.getElem?_cons_zero, List.getElem?_cons_succ, List.getElem?_nil, Nat.reduceSub, gt_iff_lt, ge_iff_le, Int.reduceLT, Int.reduceLE, Int.reduceEq, Int.cast_ofNat_Int, Int.reduceToNat, implies_true, forall_const, Nat.reduceMul, keyV, elN, eqCells, binS, Ret, newElt, fillA, bound, aidxV, slcO, ho]
  subst hr
  obtain ⟨rfl, hall⟩ | ⟨k, hk, _⟩ := hj
  · simp -implicitDefEqProofs only [vq0, vq1, vq2, vq3, vq4, vq5, vq6, vq7, vq8, vq9, vqc, vqj, vqf, AI.val, EI.run, binI, kEq, env0, RetF, retL, retV, frzAL, part?, List.drop, List.take, List.all, List.length, List.map, List.append, List.nil_append, List.cons_append, List.append_nil, List.getD_cons_zero, List.getD_cons_succ, List.getD_nil, Option.map_some, Option.map_none, cond_true, cond_false, Nat.reduceEqDiff, Nat.reduceAdd, reduceIte, eq_self, IntKind.bits, litA, appSrc, frzV, frzL, mkElt, List.replicate, List.set, Nat.reduceLeDiff, Nat.reduceBEq, Nat.reduceLT, decide_true, decide_false, List.getElem?_cons_zero, List.getElem?_cons_succ, List.getElem?_nil, Nat.reduceSub, gt_iff_lt, ge_iff_le, Int.reduceLT, Int.reduceLE, Int.reduceEq, Int.cast_ofNat_Int, Int.reduceToNat, implies_true, forall_const, Nat.reduceMul, keyV, elN, eqCells, binS, Ret, newElt, fillA, bound, aidxV, slcO]
  · omega

/-- The error of Cone. -/
noncomputable def coneF (G : Gra) (n : Nat) (x : Nat → Int) : Int := if graphF G ≠ 0 then graphF G else scan (fun i => badLit G.nodes (x i)) n
theorem coneF_zero {G : Gra} {n : Nat} {x : Nat → Int} (h : coneF G n x = 0) : graphF G = 0 ∧ ∀ i, i < n → litOk G.nodes (x i) := by
  unfold coneF at h
  by_cases hg : graphF G = 0
  · rw [if_neg (by simpa using hg)] at h
    exact ⟨hg, fun i hi => badLit_zero (scan_zero h i hi)⟩
  · rw [if_pos hg] at h; exact absurd h hg
theorem p50 {G : Gra} {cs : List AV} (hG : GraC cs G) (ok : G.Ok) (n : Nat) (x : Nat → Int) (fx : Nat → AV) (hx : ∀ i, i < n → fx i = .int .i64 (x i)) (hn : n ≤ 1048576) (b : Nat) {mem : Mem} :
    CallW PP 50 [.agg cs, .fs n fx] mem fun v m => ∃ a, v = .tup [a, .int .i64 (coneF G n x)] ∧ (coneF G n x ≠ 0 → a = .cap0) ∧ (coneF G n x = 0 → AccL [b + 42] 3 1 ((kpL (keepB G n x) G.nodes).map iv) a m) ∧ Keeps b mem m := by
  have hG0 := hG
  have pC := p29 hG ok
  have pN := p25 hG ok
  obtain ⟨f0, f1, f2, f3, f4, rfl, g0, g1, g2, g3, g4⟩ := hG
  refine Fn.call fmix (g50 b) ?_
  unfold b50 q50
  simp -implicitDefEqProofs only [vq0, vq1, vq2, vq3, vq4, vq5, vq6, vq7, vq8, vq9, vqc, vqj, vqf, AI.val, EI.run, binI, kEq, env0, RetF, retL, retV, frzAL, part?, List.drop, List.take, List.all, List.length, List.map, List.append, List.nil_append, List.cons_append, List.append_nil, List.getD_cons_zero, List.getD_cons_succ, List.getD_nil, Option.map_some, Option.map_none, cond_true, cond_false, Nat.reduceEqDiff, Nat.reduceAdd, reduceIte, eq_self, IntKind.bits, litA, appSrc, frzV, frzL, mkElt, List.replicate, List.set, Nat.reduceLeDiff, Nat.reduceBEq, Nat.reduceLT, decide_true, decide_false, List.getElem?_cons_zero, List.getElem?_cons_succ, List.getElem?_nil, Nat.reduceSub, gt_iff_lt, ge_iff_le, Int.reduceLT, Int.reduceLE, Int.reduceEq, Int.cast_ofNat_Int, Int.reduceToNat, implies_true, forall_const, Nat.reduceMul, keyV, elN, eqCells, binS, Ret, newElt, fillA, bound, aidxV, slcO]
  generalize (mem (b + 2)).ver + 1 = V2
  refine CallW.sc pC rfl ⟨⟨trivial, trivial, trivial, trivial, trivial, trivial⟩, trivial⟩ fun r hr => ⟨by subst hr; rfl, ?_⟩
  subst hr
  simp -implicitDefEqProofs only [vq0, vq1, vq2, vq3, vq4, vq5, vq6, vq7, vq8, vq9, vqc, vqj, vqf, AI.val, EI.run, binI, kEq, env0, RetF, retL, retV, frzAL, part?, List.drop, List.take, List.all, List.length, List.map, List.append, List.nil_append, List.cons_append, List.append_nil, List.getD_cons_zero, List.getD_cons_succ, List.getD_nil, Option.map_some, Option.map_none, cond_true, cond_false, Nat.reduceEqDiff, Nat.reduceAdd, reduceIte, eq_self, IntKind.bits, litA, appSrc, frzV, frzL, mkElt, List.replicate, List.set, Nat.reduceLeDiff, Nat.reduceBEq, Nat.reduceLT, decide_true, decide_false, List.getElem?_cons_zero, List.getElem?_cons_succ, List.getElem?_nil, Nat.reduceSub, gt_iff_lt, ge_iff_le, Int.reduceLT, Int.reduceLE, Int.reduceEq, Int.cast_ofNat_Int, Int.reduceToNat, implies_true, forall_const, Nat.reduceMul, keyV, elN, eqCells, binS, Ret, newElt, fillA, bound, aidxV, slcO]
  refine ⟨fun h => ?_, fun h => ?_⟩
  · have hc : coneF G n x = graphF G := by unfold coneF; rw [if_pos h]
    rw [hc]
    exact ⟨_, rfl, fun _ => rfl, fun e => absurd e h⟩
  have h0 : graphF G = 0 := by simpa using h
  have hcf : coneF G n x = scan (fun i => badLit G.nodes (x i)) n := by unfold coneF; rw [if_neg h]
  have gd := good_of h0
  have b1 := gd.ni; have b2 := gd.nr; have b3 := gd.na
  have hbE : G.base = 1 + G.ni + G.nr := rfl
  have hnE : G.nodes = G.base + G.na := rfl
  rw [h0]
  refine vFor n (fun i e m => e 1 = .fs n fx ∧ e 2 = .ptr (b + 2) V2 0 ∧ m (b + 2) = .var V2 [.fs G.ni f0, .fs G.no f1, .fs G.nr f2, .fs G.na f3, .fs G.nk f4] ∧ e 17 = .fs n fx ∧ e 18 = .int .i64 n ∧ e 19 = .int .i64 i ∧ scan (fun i => badLit G.nodes (x i)) i = 0 ∧ Keeps b mem m) ?_ ?_ ?_
  · simp -implicitDefEqProofs only [vq0, vq1, vq2, vq3, vq4, vq5, vq6, vq7, vq8, vq9, vqc, vqj, vqf, AI.val, EI.run, binI, kEq, env0, RetF, retL, retV, frzAL, part?, List.drop, List.take, List.all, List.length, List.map, List.append, List.nil_append, List.cons_append, List.append_nil, List.getD_cons_zero, List.getD_cons_succ, List.getD_nil, Option.map_some, Option.map_none, cond_true, cond_false, Nat.reduceEqDiff, Nat.reduceAdd, reduceIte, eq_self, IntKind.bits, litA, appSrc, frzV, frzL, mkElt, List.replicate, List.set, Nat.reduceLeDiff, Nat.reduceBEq, Nat.reduceLT, decide_true, decide_false, List.getElem?_cons_zero, List.getElem?_cons_succ, List.getElem?_nil, Nat.reduceSub, gt_iff_lt, ge_iff_le, Int.reduceLT, Int.reduceLE, Int.reduceEq, Int.cast_ofNat_Int, Int.reduceToNat, implies_true, forall_const, Nat.reduceMul, keyV, elN, eqCells, binS, Ret, newElt, fillA, bound, aidxV, slcO]
    rfl
  · rintro i e m hi hi' ⟨h1, h2, m2, h17, h18, h19, hs, hK⟩
    have hxi := hx i hi
    unfold b50_0
    simp -implicitDefEqProofs only [vq0, vq1, vq2, vq3, vq4, vq5, vq6, vq7, vq8, vq9, vqc, vqj, vqf, AI.val, EI.run, binI, kEq, env0, RetF, retL, retV, frzAL, part?, List.drop, List.take, List.all, List.length, List.map, List.append, List.nil_append, List.cons_append, List.append_nil, List.getD_cons_zero, List.getD_cons_succ, List.getD_nil, Option.map_some, Option.map_none, cond_true, cond_false, Nat.reduceEqDiff, Nat.reduceAdd, reduceIte, eq_self, IntKind.bits, litA, appSrc, frzV, frzL, mkElt, List.replicate, List.set, Nat.reduceLeDiff, Nat.reduceBEq, Nat.reduceLT, decide_true, decide_false, List.getElem?_cons_zero, List.getElem?_cons_succ, List.getElem?_nil, Nat.reduceSub, gt_iff_lt, ge_iff_le, Int.reduceLT, Int.reduceLE, Int.reduceEq, Int.cast_ofNat_Int, Int.reduceToNat, implies_true, forall_const, Nat.reduceMul, keyV, elN, eqCells, binS, Ret, newElt, fillA, bound, aidxV, slcO, h1, h2, m2, h17, h18, h19, hi', hxi]
    refine ⟨by omega, ?_⟩
    refine CallW.sc pN rfl ⟨⟨trivial, trivial, trivial, trivial, trivial, trivial⟩, trivial⟩ fun r hr => ⟨by subst hr; rfl, ?_⟩
    subst hr
    simp -implicitDefEqProofs only [vq0, vq1, vq2, vq3, vq4, vq5, vq6, vq7, vq8, vq9, vqc, vqj, vqf, AI.val, EI.run, binI, kEq, env0, RetF, retL, retV, frzAL, part?, List.drop, List.take, List.all, List.length, List.map, List.append, List.nil_append, List.cons_append, List.append_nil, List.getD_cons_zero, List.getD_cons_succ, List.getD_nil, Option.map_some, Option.map_none, cond_true, cond_false, Nat.reduceEqDiff, Nat.reduceAdd, reduceIte, eq_self, IntKind.bits, litA, appSrc, frzV, frzL, mkElt, List.replicate, List.set, Nat.reduceLeDiff, Nat.reduceBEq, Nat.reduceLT, decide_true, decide_false, List.getElem?_cons_zero, List.getElem?_cons_succ, List.getElem?_nil, Nat.reduceSub, gt_iff_lt, ge_iff_le, Int.reduceLT, Int.reduceLE, Int.reduceEq, Int.cast_ofNat_Int, Int.reduceToNat, implies_true, forall_const, Nat.reduceMul, keyV, elN, eqCells, binS, Ret, newElt, fillA, bound, aidxV, slcO, h1, h2, m2, h17, h18, h19]
    refine CallW.sc (p74n G.nodes (x i) (by omega)) rfl ⟨trivial, trivial, trivial⟩ fun r hr => ⟨by subst hr; rfl, ?_⟩
    subst hr
    by_cases hl : litOk G.nodes (x i)
    · have hd : decide (litOk G.nodes (x i)) = true := decide_eq_true hl
      rw [hd]
      simp -implicitDefEqProofs only [vq0, vq1, vq2, vq3, vq4, vq5, vq6, vq7, vq8, vq9, vqc, vqj, vqf, AI.val, EI.run, binI, kEq, env0, RetF, retL, retV, frzAL, part?, List.drop, List.take, List.all, List.length, List.map, List.append, List.nil_append, List.cons_append, List.append_nil, List.getD_cons_zero, List.getD_cons_succ, List.getD_nil, Option.map_some, Option.map_none, cond_true, cond_false, Nat.reduceEqDiff, Nat.reduceAdd, reduceIte, eq_self, IntKind.bits, litA, appSrc, frzV, frzL, mkElt, List.replicate, List.set, Nat.reduceLeDiff, Nat.reduceBEq, Nat.reduceLT, decide_true, decide_false, List.getElem?_cons_zero, List.getElem?_cons_succ, List.getElem?_nil, Nat.reduceSub, gt_iff_lt, ge_iff_le, Int.reduceLT, Int.reduceLE, Int.reduceEq, Int.cast_ofNat_Int, Int.reduceToNat, implies_true, forall_const, Nat.reduceMul, keyV, elN, eqCells, binS, Ret, newElt, fillA, bound, aidxV, slcO, h1, h2, m2, h17, h18, h19]
      exact ⟨hi, wI (by omega) (by omega), scan_step hs (by unfold badLit; rw [if_pos hl]), hK⟩
    · have hd : decide (litOk G.nodes (x i)) = false := decide_eq_false hl
      have hc : coneF G n x = 2 := by rw [hcf]; exact scan_stop hs (by unfold badLit; rw [if_neg hl]) (by decide) n hi
      rw [hd]
      simp -implicitDefEqProofs only [vq0, vq1, vq2, vq3, vq4, vq5, vq6, vq7, vq8, vq9, vqc, vqj, vqf, AI.val, EI.run, binI, kEq, env0, RetF, retL, retV, frzAL, part?, List.drop, List.take, List.all, List.length, List.map, List.append, List.nil_append, List.cons_append, List.append_nil, List.getD_cons_zero, List.getD_cons_succ, List.getD_nil, Option.map_some, Option.map_none, cond_true, cond_false, Nat.reduceEqDiff, Nat.reduceAdd, reduceIte, eq_self, IntKind.bits, litA, appSrc, frzV, frzL, mkElt, List.replicate, List.set, Nat.reduceLeDiff, Nat.reduceBEq, Nat.reduceLT, decide_true, decide_false, List.getElem?_cons_zero, List.getElem?_cons_succ, List.getElem?_nil, Nat.reduceSub, gt_iff_lt, ge_iff_le, Int.reduceLT, Int.reduceLE, Int.reduceEq, Int.cast_ofNat_Int, Int.reduceToNat, implies_true, forall_const, Nat.reduceMul, keyV, elN, eqCells, binS, Ret, newElt, fillA, bound, aidxV, slcO, h1, h2, m2, h17, h18, h19]
      rw [hc]
      exact ⟨_, rfl, fun _ => rfl, fun e => absurd e (by decide), hK⟩
  · rintro e m ⟨h1, h2, m2, h17, h18, h19, hs, hK⟩
    have hc : coneF G n x = 0 := by rw [hcf]; exact hs
    obtain ⟨_, hok⟩ := coneF_zero hc
    rw [hc]
    unfold b50_0
    simp -implicitDefEqProofs only [vq0, vq1, vq2, vq3, vq4, vq5, vq6, vq7, vq8, vq9, vqc, vqj, vqf, AI.val, EI.run, binI, kEq, env0, RetF, retL, retV, frzAL, part?, List.drop, List.take, List.all, List.length, List.map, List.append, List.nil_append, List.cons_append, List.append_nil, List.getD_cons_zero, List.getD_cons_succ, List.getD_nil, Option.map_some, Option.map_none, cond_true, cond_false, Nat.reduceEqDiff, Nat.reduceAdd, reduceIte, eq_self, IntKind.bits, litA, appSrc, frzV, frzL, mkElt, List.replicate, List.set, Nat.reduceLeDiff, Nat.reduceBEq, Nat.reduceLT, decide_true, decide_false, List.getElem?_cons_zero, List.getElem?_cons_succ, List.getElem?_nil, Nat.reduceSub, gt_iff_lt, ge_iff_le, Int.reduceLT, Int.reduceLE, Int.reduceEq, Int.cast_ofNat_Int, Int.reduceToNat, implies_true, forall_const, Nat.reduceMul, keyV, elN, eqCells, binS, Ret, newElt, fillA, bound, aidxV, slcO, h1, h2, m2, h17, h18, h19]
    refine CallW.fz (p88 hG0 ok gd n x fx hx hok hn) rfl rfl fun r ⟨f, hr, hf⟩ => ⟨by subst hr; rfl, ?_⟩
    subst hr
    simp -implicitDefEqProofs only [vq0, vq1, vq2, vq3, vq4, vq5, vq6, vq7, vq8, vq9, vqc, vqj, vqf, AI.val, EI.run, binI, kEq, env0, RetF, retL, retV, frzAL, part?, List.drop, List.take, List.all, List.length, List.map, List.append, List.nil_append, List.cons_append, List.append_nil, List.getD_cons_zero, List.getD_cons_succ, List.getD_nil, Option.map_some, Option.map_none, cond_true, cond_false, Nat.reduceEqDiff, Nat.reduceAdd, reduceIte, eq_self, IntKind.bits, litA, appSrc, frzV, frzL, mkElt, List.replicate, List.set, Nat.reduceLeDiff, Nat.reduceBEq, Nat.reduceLT, decide_true, decide_false, List.getElem?_cons_zero, List.getElem?_cons_succ, List.getElem?_nil, Nat.reduceSub, gt_iff_lt, ge_iff_le, Int.reduceLT, Int.reduceLE, Int.reduceEq, Int.cast_ofNat_Int, Int.reduceToNat, implies_true, forall_const, Nat.reduceMul, keyV, elN, eqCells, binS, Ret, newElt, fillA, bound, aidxV, slcO, h1, h2, m2, h17, h18, h19]
    refine vFor G.nodes (fun i e m => e 31 = .fs G.nodes f ∧ e 32 = .int .i64 G.nodes ∧ e 33 = .int .i64 i ∧ AccL [b + 42] 3 1 ((kpL (keepB G n x) i).map iv) (e 9) m ∧ Keeps b mem m) ?_ ?_ ?_
    · simp -implicitDefEqProofs only [vq0, vq1, vq2, vq3, vq4, vq5, vq6, vq7, vq8, vq9, vqc, vqj, vqf, AI.val, EI.run, binI, kEq, env0, RetF, retL, retV, frzAL, part?, List.drop, List.take, List.all, List.length, List.map, List.append, List.nil_append, List.cons_append, List.append_nil, List.getD_cons_zero, List.getD_cons_succ, List.getD_nil, Option.map_some, Option.map_none, cond_true, cond_false, Nat.reduceEqDiff, Nat.reduceAdd, reduceIte, eq_self, IntKind.bits, litA, appSrc, frzV, frzL, mkElt, List.replicate, List.set, Nat.reduceLeDiff, Nat.reduceBEq, Nat.reduceLT, decide_true, decide_false, List.getElem?_cons_zero, List.getElem?_cons_succ, List.getElem?_nil, Nat.reduceSub, gt_iff_lt, ge_iff_le, Int.reduceLT, Int.reduceLE, Int.reduceEq, Int.cast_ofNat_Int, Int.reduceToNat, implies_true, forall_const, Nat.reduceMul, keyV, elN, eqCells, binS, Ret, newElt, fillA, bound, aidxV, slcO]
      exact ⟨.inl ⟨rfl, rfl⟩, hK⟩
    · rintro i e m hi hi' ⟨h31, h32, h33, hA, hK⟩
      have hfi := hf i hi
      have hlen := kpL_len (keepB G n x) i
      have ek : kpL (keepB G n x) (i + 1) = if keepB G n x i then kpL (keepB G n x) i ++ [i] else kpL (keepB G n x) i := rfl
      unfold b50_1
      cases hb : keepB G n x i
      · rw [hb] at hfi
        simp -implicitDefEqProofs only [vq0, vq1, vq2, vq3, vq4, vq5, vq6, vq7, vq8, vq9, vqc, vqj, vqf, AI.val, EI.run, binI, kEq, env0, RetF, retL, retV, frzAL, part?, List.drop, List.take, List.all, List.length, List.map, List.append, List.nil_append, List.cons_append, List.append_nil, List.getD_cons_zero, List.getD_cons_succ, List.getD_nil, Option.map_some, Option.map_none, cond_true, cond_false, Nat.reduceEqDiff, Nat.reduceAdd, reduceIte, eq_self, IntKind.bits, litA, appSrc, frzV, frzL, mkElt, List.replicate, List.set, Nat.reduceLeDiff, Nat.reduceBEq, Nat.reduceLT, decide_true, decide_false, List.getElem?_cons_zero, List.getElem?_cons_succ, List.getElem?_nil, Nat.reduceSub, gt_iff_lt, ge_iff_le, Int.reduceLT, Int.reduceLE, Int.reduceEq, Int.cast_ofNat_Int, Int.reduceToNat, implies_true, forall_const, Nat.reduceMul, keyV, elN, eqCells, binS, Ret, newElt, fillA, bound, aidxV, slcO, h31, h32, h33, hi', hfi]
        refine ⟨by omega, hi, wI (by omega) (by omega), ?_, hK⟩
        rw [ek, hb]; exact hA
      · rw [hb] at hfi
        have e2 : (kpL (keepB G n x) (i + 1)).map iv = (kpL (keepB G n x) i).map iv ++ [.int .i64 (i : Nat)] := by rw [ek, hb]; simp [iv]
        rw [← List.length_map (f := iv)] at hlen
        generalize hLL : (kpL (keepB G n x) i).map iv = L at *
        obtain ⟨rfl, h9⟩ | ⟨s, ver, g, hs, h9, hm, hg⟩ := hA
        · simp -implicitDefEqProofs only [vq0, vq1, vq2, vq3, vq4, vq5, vq6, vq7, vq8, vq9, vqc, vqj, vqf, AI.val, EI.run, binI, kEq, env0, RetF, retL, retV, frzAL, part?, List.drop, List.take, List.all, List.length, List.map, List.append, List.nil_append, List.cons_append, List.append_nil, List.getD_cons_zero, List.getD_cons_succ, List.getD_nil, Option.map_some, Option.map_none, cond_true, cond_false, Nat.reduceEqDiff, Nat.reduceAdd, reduceIte, eq_self, IntKind.bits, litA, appSrc, frzV, frzL, mkElt, List.replicate, List.set, Nat.reduceLeDiff, Nat.reduceBEq, Nat.reduceLT, decide_true, decide_false, List.getElem?_cons_zero, List.getElem?_cons_succ, List.getElem?_nil, Nat.reduceSub, gt_iff_lt, ge_iff_le, Int.reduceLT, Int.reduceLE, Int.reduceEq, Int.cast_ofNat_Int, Int.reduceToNat, implies_true, forall_const, Nat.reduceMul, keyV, elN, eqCells, binS, Ret, newElt, fillA, bound, aidxV, slcO, h31, h32, h33, hi', hfi, h9]
          refine ⟨by omega, hi, wI (by omega) (by omega), ?_, hK⟩
          rw [e2]
          exact AccL.first (by simp)
        · obtain rfl : s = b + 42 := by simpa using hs
          simp -implicitDefEqProofs only [vq0, vq1, vq2, vq3, vq4, vq5, vq6, vq7, vq8, vq9, vqc, vqj, vqf, AI.val, EI.run, binI, kEq, env0, RetF, retL, retV, frzAL, part?, List.drop, List.take, List.all, List.length, List.map, List.append, List.nil_append, List.cons_append, List.append_nil, List.getD_cons_zero, List.getD_cons_succ, List.getD_nil, Option.map_some, Option.map_none, cond_true, cond_false, Nat.reduceEqDiff, Nat.reduceAdd, reduceIte, eq_self, IntKind.bits, litA, appSrc, frzV, frzL, mkElt, List.replicate, List.set, Nat.reduceLeDiff, Nat.reduceBEq, Nat.reduceLT, decide_true, decide_false, List.getElem?_cons_zero, List.getElem?_cons_succ, List.getElem?_nil, Nat.reduceSub, gt_iff_lt, ge_iff_le, Int.reduceLT, Int.reduceLE, Int.reduceEq, Int.cast_ofNat_Int, Int.reduceToNat, implies_true, forall_const, Nat.reduceMul, keyV, elN, eqCells, binS, Ret, newElt, fillA, bound, aidxV, slcO, h31, h32, h33, hi', hfi, h9, hm]
          refine ⟨by omega, by omega, hi, wI (by omega) (by omega), ?_, hK⟩
          rw [e2]
          exact AccL.push (by simp) hg
    · rintro e m ⟨h31, h32, h33, hA, hK⟩
      unfold b50_1
      simp -implicitDefEqProofs only [vq0, vq1, vq2, vq3, vq4, vq5, vq6, vq7, vq8, vq9, vqc, vqj, vqf, AI.val, EI.run, binI, kEq, env0, RetF, retL, retV, frzAL, part?, List.drop, List.take, List.all, List.length, List.map, List.append, List.nil_append, List.cons_append, List.append_nil, List.getD_cons_zero, List.getD_cons_succ, List.getD_nil, Option.map_some, Option.map_none, cond_true, cond_false, Nat.reduceEqDiff, Nat.reduceAdd, reduceIte, eq_self, IntKind.bits, litA, appSrc, frzV, frzL, mkElt, List.replicate, List.set, Nat.reduceLeDiff, Nat.reduceBEq, Nat.reduceLT, decide_true, decide_false, List.getElem?_cons_zero, List.getElem?_cons_succ, List.getElem?_nil, Nat.reduceSub, gt_iff_lt, ge_iff_le, Int.reduceLT, Int.reduceLE, Int.reduceEq, Int.cast_ofNat_Int, Int.reduceToNat, implies_true, forall_const, Nat.reduceMul, keyV, elN, eqCells, binS, Ret, newElt, fillA, bound, aidxV, slcO, h31, h32, h33]
      exact ⟨_, rfl, fun e => absurd rfl e, hA, hK⟩

theorem p51 {G : Gra} {cs : List AV} (hG : GraC cs G) (ok : G.Ok) (n : Nat) (x : Nat → Int) (fx : Nat → AV) (hx : ∀ i, i < n → fx i = .int .i64 (x i)) (hn : n ≤ 1048576) :
    Pure PP 51 [.agg cs, .fs n fx] fun r => ∃ k f, r = .tup [.fs k f, .int .i64 (coneF G n x)] ∧ (coneF G n x ≠ 0 → k = 0) ∧ (coneF G n x = 0 → k = (kpL (fun k => keepB G n x k && !dlB G k) G.nodes).length ∧ ∀ j, j < k → f j = iv ((kpL (fun k => keepB G n x k && !dlB G k) G.nodes).getD j 0)) := by
  have hG0 := hG
  have p50c := fun mem => p50 hG ok n x fx hx hn 1000 (mem := mem)
  obtain ⟨f0, f1, f2, f3, f4, rfl, g0, g1, g2, g3, g4⟩ := hG
  refine Fn.pure fmix f51 ?_
  unfold a51 r51
  simp -implicitDefEqProofs only [vq0, vq1, vq2, vq3, vq4, vq5, vq6, vq7, vq8, vq9, vqc, vqj, vqf, AI.val, EI.run, binI, kEq, env0, RetF, retL, retV, frzAL, part?, List.drop, List.take, List.all, List.length, List.map, List.append, List.nil_append, List.cons_append, List.append_nil, List.getD_cons_zero, List.getD_cons_succ, List.getD_nil, Option.map_some, Option.map_none, cond_true, cond_false, Nat.reduceEqDiff, Nat.reduceAdd, reduceIte, eq_self, IntKind.bits, litA, appSrc, frzV, frzL, mkElt, List.replicate, List.set, Nat.reduceLeDiff, Nat.reduceBEq, Nat.reduceLT, decide_true, decide_false, List.getElem?_cons_zero, List.getElem?_cons_succ, List.getElem?_nil, Nat.reduceSub, gt_iff_lt, ge_iff_le, Int.reduceLT, Int.reduceLE, Int.reduceEq, Int.cast_ofNat_Int, Int.reduceToNat, implies_true, forall_const, Nat.reduceMul, keyV, elN, eqCells, binS, Ret, newElt, fillA, bound, aidxV, slcO]
  generalize (mem0 2).ver + 1 = V2
  refine (p50c _).mono fun v m ⟨a, hv, h1, h2, hK⟩ => ?_
  subst hv
  have m2 := hK 2 (by decide)
  rw [set_same] at m2
  simp -implicitDefEqProofs only [vq0, vq1, vq2, vq3, vq4, vq5, vq6, vq7, vq8, vq9, vqc, vqj, vqf, AI.val, EI.run, binI, kEq, env0, RetF, retL, retV, frzAL, part?, List.drop, List.take, List.all, List.length, List.map, List.append, List.nil_append, List.cons_append, List.append_nil, List.getD_cons_zero, List.getD_cons_succ, List.getD_nil, Option.map_some, Option.map_none, cond_true, cond_false, Nat.reduceEqDiff, Nat.reduceAdd, reduceIte, eq_self, IntKind.bits, litA, appSrc, frzV, frzL, mkElt, List.replicate, List.set, Nat.reduceLeDiff, Nat.reduceBEq, Nat.reduceLT, decide_true, decide_false, List.getElem?_cons_zero, List.getElem?_cons_succ, List.getElem?_nil, Nat.reduceSub, gt_iff_lt, ge_iff_le, Int.reduceLT, Int.reduceLE, Int.reduceEq, Int.cast_ofNat_Int, Int.reduceToNat, implies_true, forall_const, Nat.reduceMul, keyV, elN, eqCells, binS, Ret, newElt, fillA, bound, aidxV, slcO]
  refine ⟨fun h => ?_, fun h => ?_⟩
  · exact ⟨_, _, rfl, fun _ => rfl, fun e => absurd e h⟩
  · have hz : coneF G n x = 0 := by simpa using h
    rw [hz]
    have gd := good_of (coneF_zero hz).1
    have b1 := gd.ni; have b2 := gd.nr; have b3 := gd.na
    have hbE : G.base = 1 + G.ni + G.nr := rfl
    have hnE : G.nodes = G.base + G.na := rfl
    have hlen := kpL_len (keepB G n x) G.nodes
    have hfk := filL_kp (keepB G n x) (dlB G) G.nodes
    obtain ⟨hL, rfl⟩ | ⟨s, ver, g, hs, rfl, hm, hg⟩ := h2 hz
    · have hL' : kpL (keepB G n x) G.nodes = [] := List.map_eq_nil_iff.1 hL
      rw [hL'] at hfk
      refine (p89z hG0 ok m2).mono fun v m' ⟨hv, hm'⟩ => ?_
      subst hv
      simp -implicitDefEqProofs only [vq0, vq1, vq2, vq3, vq4, vq5, vq6, vq7, vq8, vq9, vqc, vqj, vqf, AI.val, EI.run, binI, kEq, env0, RetF, retL, retV, frzAL, part?, List.drop, List.take, List.all, List.length, List.map, List.append, List.nil_append, List.cons_append, List.append_nil, List.getD_cons_zero, List.getD_cons_succ, List.getD_nil, Option.map_some, Option.map_none, cond_true, cond_false, Nat.reduceEqDiff, Nat.reduceAdd, reduceIte, eq_self, IntKind.bits, litA, appSrc, frzV, frzL, mkElt, List.replicate, List.set, Nat.reduceLeDiff, Nat.reduceBEq, Nat.reduceLT, decide_true, decide_false, List.getElem?_cons_zero, List.getElem?_cons_succ, List.getElem?_nil, Nat.reduceSub, gt_iff_lt, ge_iff_le, Int.reduceLT, Int.reduceLE, Int.reduceEq, Int.cast_ofNat_Int, Int.reduceToNat, implies_true, forall_const, Nat.reduceMul, keyV, elN, eqCells, binS, Ret, newElt, fillA, bound, aidxV, slcO]
      refine ⟨_, _, rfl, fun e => absurd rfl e, by rw [← hfk]; rfl, fun j hj => absurd hj (Nat.not_lt_zero _)⟩
    · obtain rfl : s = 1042 := by simpa using hs
      rw [List.length_map] at hm hg
      rw [List.length_map]
      refine (p89 hG0 ok (x := fun j => (kpL (keepB G n x) G.nodes).getD j 0) m2 hm (fun i hi => by rw [hg i hi, getD_iv _ hi]) (by omega)).mono fun v m ⟨h, hv, hm', hh, hF⟩ => ?_
      subst hv
      rw [hfk] at hh
      simp -implicitDefEqProofs only [vq0, vq1, vq2, vq3, vq4, vq5, vq6, vq7, vq8, vq9, vqc, vqj, vqf, AI.val, EI.run, binI, kEq, env0, RetF, retL, retV, frzAL, part?, List.drop, List.take, List.all, List.length, List.map, List.append, List.nil_append, List.cons_append, List.append_nil, List.getD_cons_zero, List.getD_cons_succ, List.getD_nil, Option.map_some, Option.map_none, cond_true, cond_false, Nat.reduceEqDiff, Nat.reduceAdd, reduceIte, eq_self, IntKind.bits, litA, appSrc, frzV, frzL, mkElt, List.replicate, List.set, Nat.reduceLeDiff, Nat.reduceBEq, Nat.reduceLT, decide_true, decide_false, List.getElem?_cons_zero, List.getElem?_cons_succ, List.getElem?_nil, Nat.reduceSub, gt_iff_lt, ge_iff_le, Int.reduceLT, Int.reduceLE, Int.reduceEq, Int.cast_ofNat_Int, Int.reduceToNat, implies_true, forall_const, Nat.reduceMul, keyV, elN, eqCells, binS, Ret, newElt, fillA, bound, aidxV, slcO, hm']
      rw [hfk]
      exact ⟨_, _, rfl, fun e => absurd rfl e, rfl, hh⟩
end Go.Ab
