/- Walks: Moved, Turned. -/
import Derived.Test.YtiecnmojbdogfaaSaCut1
import Derived.Test.YtiecnmojbdogfaaSaCutM
set_option linter.unusedSimpArgs false
set_option linter.unusedVariables false
namespace Go.Ab
open Go
def b38_0 (b : Nat) : AC := (.seq (.ops [⟨(some 11), none, (.v (.bin .lss (.t 10) (.t 9)))⟩]) (.seq (.cond (.t 11) .skip (.exit 0)) (.seq (.block 1 (.seq (.ops [⟨(some 12), none, (.v (.idx 1 (.t 8) (.t 10)))⟩, ⟨(some 13), none, (.v (.load 1 false (.t 12)))⟩, ⟨(some 7), none, (.v (.mv (.t 13)))⟩]) (.ops [⟨(some 14), none, (.v (.mv (.t 5)))⟩, ⟨(some 15), none, (.v (.mv (.t 0)))⟩, ⟨(some 16), none, (.v (.mv (.t 7)))⟩, ⟨(some 17), none, (.v (.idx 1 (.t 15) (.t 16)))⟩, ⟨(some 18), none, (.v (.load 1 false (.t 17)))⟩, ⟨(some 19), none, (.e (.lit (b + 19) 4 1 1 [(.bool false)] [(0, (.t 18))]))⟩, ⟨(some 20), none, (.e (.app (b + 20) 4 1 1 (.t 14) (.t 19)))⟩, ⟨(some 5), none, (.v (.mv (.t 20)))⟩]))) (.ops [⟨(some 21), none, (.v (.bin .add (.t 10) (.c (.int .i64 1))))⟩, ⟨(some 10), none, (.v (.mv (.t 21)))⟩]))))
def b38 (b : Nat) : AC := (.seq (.ops [⟨(some 4), none, (.v (.mv (.c (.bool false))))⟩]) (.seq (.ops [⟨(some 5), none, (.v (.mv (.c .cap0)))⟩]) (.seq (.seq (.ops [⟨(some 8), none, (.v (.load 1 false (.t 1)))⟩, ⟨(some 9), none, (.v (.len (.t 8)))⟩, ⟨(some 10), none, (.v (.mv (.c (.int .i64 0))))⟩]) (.block 0 (.loop (b38_0 b)))) (.seq (.any [⟨(some 22), none, (.v (.load 1 false (.t 2)))⟩, ⟨(some 23), none, (.v (.mv (.t 5)))⟩, ⟨(some 24), none, (.call (.c (.fn 34 [])) [(.t 23)])⟩, ⟨(some 25), none, (.call (.c (.fn 33 [])) [(.t 22), (.t 24)])⟩, ⟨(some 4), none, (.v (.mv (.t 25)))⟩] [[], [], [1], [0, 2, 2], [3, 3, 0, 1, 2, 3]]) .ret))))
def q38 : List AI := [(.mv (.t 4))]
theorem g38 (b : Nat) : Fn PP 38 3 (b38 b) q38 := Fn.ofB b (fn := Go.Proofs.Try.f38) (by kernel_rfl) (by kernel_rfl) (by kernel_rfl)
def a18_0 : AC := (.seq (.ops [⟨(some 23), none, (.v (.bin .lss (.t 22) (.t 21)))⟩]) (.seq (.cond (.t 23) .skip (.exit 0)) (.seq (.block 1 (.seq (.ops [⟨(some 24), none, (.v (.mv (.t 22)))⟩, ⟨(some 25), none, (.v (.idx 1 (.t 20) (.t 22)))⟩, ⟨(some 26), none, (.v (.load 1 false (.t 25)))⟩, ⟨(some 7), none, (.v (.mv (.t 24)))⟩, ⟨(some 8), none, (.v (.mv (.t 26)))⟩]) (.seq (.ops [⟨(some 27), none, (.v (.mv (.t 8)))⟩, ⟨(some 28), none, (.v (.bin .lss (.t 27) (.c (.int .i64 0))))⟩, ⟨(some 29), none, (.v (.mv (.t 28)))⟩, ⟨(some 30), (some (29, false)), (.v (.mv (.t 8)))⟩, ⟨(some 31), (some (29, false)), (.v (.mv (.t 2)))⟩, ⟨(some 32), (some (29, false)), (.v (.bin .geq (.t 30) (.t 31)))⟩, ⟨(some 33), none, (.v (.pick (.t 29) (.c (.bool true)) (.t 32)))⟩, ⟨(some 34), none, (.v (.mv (.t 33)))⟩, ⟨(some 35), (some (34, false)), (.v (.load 1 false (.t 4)))⟩, ⟨(some 36), (some (34, false)), (.v (.mv (.t 8)))⟩, ⟨(some 37), (some (34, false)), (.call (.c (.fn 37 [])) [(.t 35), (.t 36)])⟩, ⟨(some 38), (some (34, false)), (.v (.mv (.t 7)))⟩, ⟨(some 39), (some (34, false)), (.v (.bin .neq (.t 37) (.t 38)))⟩, ⟨(some 40), none, (.v (.pick (.t 34) (.c (.bool true)) (.t 39)))⟩]) (.cond (.t 40) (.seq (.ops [⟨(some 6), none, (.v (.mv (.c (.int .u64 0))))⟩]) .ret) .skip)))) (.ops [⟨(some 41), none, (.v (.bin .add (.t 22) (.c (.int .i64 1))))⟩, ⟨(some 22), none, (.v (.mv (.t 41)))⟩]))))
def a18 : AC := (.seq (.ops [⟨(some 3), none, (.e (.box 3 0 (.t 0)))⟩, ⟨(some 4), none, (.e (.box 4 0 (.t 1)))⟩, ⟨(some 6), none, (.v (.mv (.c (.int .u64 0))))⟩]) (.seq (.seq (.ops [⟨(some 9), none, (.v (.mv (.t 2)))⟩, ⟨(some 10), none, (.v (.bin .lss (.t 9) (.c (.int .i64 0))))⟩, ⟨(some 11), none, (.v (.mv (.t 10)))⟩, ⟨(some 12), (some (11, false)), (.v (.mv (.t 2)))⟩, ⟨(some 13), (some (11, false)), (.v (.bin .gtr (.t 12) (.c (.int .i64 6))))⟩, ⟨(some 14), none, (.v (.pick (.t 11) (.c (.bool true)) (.t 13)))⟩, ⟨(some 15), none, (.v (.mv (.t 14)))⟩, ⟨(some 16), (some (15, false)), (.v (.load 1 false (.t 4)))⟩, ⟨(some 17), (some (15, false)), (.v (.len (.t 16)))⟩, ⟨(some 18), (some (15, false)), (.v (.bin .gtr (.t 17) (.c (.int .i64 6))))⟩, ⟨(some 19), none, (.v (.pick (.t 15) (.c (.bool true)) (.t 18)))⟩]) (.cond (.t 19) (.seq (.ops [⟨(some 6), none, (.v (.mv (.c (.int .u64 0))))⟩]) .ret) .skip)) (.seq (.seq (.ops [⟨(some 20), none, (.v (.load 1 false (.t 4)))⟩, ⟨(some 21), none, (.v (.len (.t 20)))⟩, ⟨(some 22), none, (.v (.mv (.c (.int .i64 0))))⟩]) (.block 0 (.loop a18_0))) (.seq (.ops [⟨(some 42), none, (.v (.mv (.t 2)))⟩, ⟨(some 43), none, (.v (.mkfn 38 [(.t 4), (.t 3)]))⟩, ⟨(some 44), none, (.call (.c (.fn 8 [])) [(.t 42), (.t 43)])⟩, ⟨(some 6), none, (.v (.mv (.t 44)))⟩]) .ret))))
def r18 : List AI := [(.mv (.t 6))]
theorem f18 : Fn PP 18 3 a18 r18 := Fn.of (fn := Go.Proofs.Try.f18) (by kernel_rfl) (by kernel_rfl) (by kernel_rfl)
def b39_0 (b : Nat) : AC := (.seq (.ops [⟨(some 9), none, (.v (.bin .lss (.t 8) (.t 7)))⟩]) (.seq (.cond (.t 9) .skip (.exit 0)) (.seq (.block 1 (.seq (.ops [⟨(some 10), none, (.v (.mv (.t 8)))⟩, ⟨(some 5), none, (.v (.mv (.t 10)))⟩]) (.any [⟨(some 11), none, (.v (.mv (.t 0)))⟩, ⟨(some 12), none, (.v (.mv (.t 5)))⟩, ⟨(some 13), none, (.v (.mv (.t 0)))⟩, ⟨(some 14), none, (.v (.mv (.t 5)))⟩, ⟨(some 15), none, (.v (.idx 1 (.t 13) (.t 14)))⟩, ⟨(some 16), none, (.v (.load 1 false (.t 15)))⟩, ⟨(some 17), none, (.v (.load 1 false (.t 1)))⟩, ⟨(some 18), none, (.v (.mv (.t 5)))⟩, ⟨(some 19), none, (.v (.bin .shr (.t 17) (.t 18)))⟩, ⟨(some 20), none, (.v (.bin .and (.t 19) (.c (.int .i64 1))))⟩, ⟨(some 21), none, (.v (.bin .eql (.t 20) (.c (.int .i64 1))))⟩, ⟨(some 22), none, (.v (.beq true (.t 16) (.t 21)))⟩, ⟨(some 23), none, (.v (.idx 1 (.t 11) (.t 12)))⟩, ⟨none, none, (.e (.store 1 (.t 23) (.t 22)))⟩] [[], [], [], [], [2, 3], [4], [], [], [6, 7], [8], [9], [5, 10], [0, 1, 0, 1, 2, 3, 4, 5, 6, 7, 8, 9, 10, 11], [12, 11, 0, 1, 2, 3, 4, 5, 6, 7, 8, 9, 10, 11]]))) (.ops [⟨(some 24), none, (.v (.bin .add (.t 8) (.c (.int .i64 1))))⟩, ⟨(some 8), none, (.v (.mv (.t 24)))⟩]))))
def b39 (b : Nat) : AC := (.seq (.ops [⟨(some 4), none, (.v (.mv (.c (.bool false))))⟩]) (.seq (.seq (.ops [⟨(some 6), none, (.v (.mv (.t 0)))⟩, ⟨(some 7), none, (.v (.len (.t 6)))⟩, ⟨(some 8), none, (.v (.mv (.c (.int .i64 0))))⟩]) (.block 0 (.loop (b39_0 b)))) (.seq (.any [⟨(some 25), none, (.v (.load 1 false (.t 2)))⟩, ⟨(some 26), none, (.v (.mv (.t 0)))⟩, ⟨(some 27), none, (.call (.c (.fn 34 [])) [(.t 26)])⟩, ⟨(some 28), none, (.call (.c (.fn 33 [])) [(.t 25), (.t 27)])⟩, ⟨(some 4), none, (.v (.mv (.t 28)))⟩] [[], [], [1], [0, 2, 2], [3, 3, 0, 1, 2, 3]]) .ret)))
def q39 : List AI := [(.mv (.t 4))]
theorem g39 (b : Nat) : Fn PP 39 3 (b39 b) q39 := Fn.ofB b (fn := Go.Proofs.Try.f39) (by kernel_rfl) (by kernel_rfl) (by kernel_rfl)
def a20 : AC := (.seq (.ops [⟨(some 3), none, (.e (.box 3 0 (.t 0)))⟩, ⟨(some 4), none, (.e (.box 4 0 (.t 1)))⟩, ⟨(some 6), none, (.v (.mv (.c (.int .u64 0))))⟩]) (.seq (.seq (.any [⟨(some 7), none, (.v (.mv (.t 2)))⟩, ⟨(some 8), none, (.v (.bin .lss (.t 7) (.c (.int .i64 0))))⟩, ⟨(some 9), none, (.v (.mv (.t 8)))⟩, ⟨(some 10), (some (9, false)), (.v (.mv (.t 2)))⟩, ⟨(some 11), (some (9, false)), (.v (.bin .gtr (.t 10) (.c (.int .i64 6))))⟩, ⟨(some 12), none, (.v (.pick (.t 9) (.c (.bool true)) (.t 11)))⟩, ⟨(some 13), none, (.v (.mv (.t 12)))⟩, ⟨(some 14), (some (13, false)), (.v (.load 1 false (.t 4)))⟩, ⟨(some 15), (some (13, false)), (.v (.bin .lss (.t 14) (.c (.int .i64 0))))⟩, ⟨(some 16), none, (.v (.pick (.t 13) (.c (.bool true)) (.t 15)))⟩, ⟨(some 17), none, (.v (.mv (.t 16)))⟩, ⟨(some 18), (some (17, false)), (.v (.load 1 false (.t 4)))⟩, ⟨(some 19), (some (17, false)), (.v (.mv (.t 2)))⟩, ⟨(some 20), (some (17, false)), (.v (.bin .shl (.c (.int .i64 1)) (.t 19)))⟩, ⟨(some 21), (some (17, false)), (.v (.bin .sub (.t 20) (.c (.int .i64 1))))⟩, ⟨(some 22), (some (17, false)), (.v (.bin .gtr (.t 18) (.t 21)))⟩, ⟨(some 23), none, (.v (.pick (.t 17) (.c (.bool true)) (.t 22)))⟩] [[], [0], [1], [2], [3, 2], [2, 4], [5, 2], [6], [7, 6], [6, 8], [9, 6], [10], [10], [12, 10], [13, 10], [11, 14, 10], [10, 15]]) (.cond (.t 23) (.seq (.ops [⟨(some 6), none, (.v (.mv (.c (.int .u64 0))))⟩]) .ret) .skip)) (.seq (.ops [⟨(some 24), none, (.v (.mv (.t 2)))⟩, ⟨(some 25), none, (.v (.mkfn 39 [(.t 4), (.t 3)]))⟩, ⟨(some 26), none, (.call (.c (.fn 8 [])) [(.t 24), (.t 25)])⟩, ⟨(some 6), none, (.v (.mv (.t 26)))⟩]) .ret)))
def r20 : List AI := [(.mv (.t 6))]
theorem f20 : Fn PP 20 3 a20 r20 := Fn.of (fn := Go.Proofs.Try.f20) (by kernel_rfl) (by kernel_rfl) (by kernel_rfl)
theorem p37i (n : Nat) (x : Nat → Int) (f : Nat → AV) (v : Int) (hf : ∀ i, i < n → f i = .int .i64 (x i)) (hn : n ≤ 1048576) : Pure PP 37 [.fs n f, .int .i64 v] fun r => ∃ j : Int, r = .int .i64 j ∧ ∀ i, i < n → x i = v → (j = (i : Int) ↔ ∀ k, k < i → x k ≠ v) := by
  refine Fn.pure fmix f37 ?_
  unfold a37 r37
  simp -implicitDefEqProofs only [vqa, Nat.reduceEqDiff, Nat.reduceAdd, reduceIte, Nat.reduceLeDiff, Nat.reduceBEq, Nat.reduceLT, Nat.reduceSub, Int.reduceLT, Int.reduceLE, Int.reduceEq, Int.reduceToNat, Nat.reduceMul, eq_self, implies_true, forall_const]
  refine vFor n (fun i e mm => e 0 = .fs n f ∧ e 1 = .int .i64 v ∧ e 7 = .int .i64 n ∧ e 8 = .int .i64 i ∧ ∀ j, j < i → ¬ x j = v) ?_ ?_ ?_
  · simp -implicitDefEqProofs only [vqa, Nat.reduceEqDiff, Nat.reduceAdd, reduceIte, Nat.reduceLeDiff, Nat.reduceBEq, Nat.reduceLT, Nat.reduceSub, Int.reduceLT, Int.reduceLE, Int.reduceEq, Int.reduceToNat, Nat.reduceMul, eq_self, implies_true, forall_const]
  · rintro i e mm hi hi' ⟨h0, h1, h7, h8, hs⟩
    unfold a37_0
    simp -implicitDefEqProofs only [vqa, Nat.reduceEqDiff, Nat.reduceAdd, reduceIte, Nat.reduceLeDiff, Nat.reduceBEq, Nat.reduceLT, Nat.reduceSub, Int.reduceLT, Int.reduceLE, Int.reduceEq, Int.reduceToNat, Nat.reduceMul, eq_self, implies_true, forall_const, h0, h1, h7, h8, hi', hf i hi]
    refine ⟨by omega, fun k => ⟨_, rfl, fun q hq hv => ⟨fun e => ?_, fun e => ?_⟩⟩, fun k => ⟨hi, wI (by omega) (by omega), fun j hj => ?_⟩⟩
    · obtain rfl : i = q := by omega
      exact hs
    · have h1 : ¬ q < i := fun h => hs q h hv
      have h2 : ¬ i < q := fun h => e i h k.symm
      omega
    · by_cases e : j = i
      · subst e; exact fun q => k q.symm
      · exact hs j (by omega)
  · rintro e mm ⟨h0, h1, h7, h8, hs⟩
    unfold a37_0
    simp -implicitDefEqProofs only [vqa, Nat.reduceEqDiff, Nat.reduceAdd, reduceIte, Nat.reduceLeDiff, Nat.reduceBEq, Nat.reduceLT, Nat.reduceSub, Int.reduceLT, Int.reduceLE, Int.reduceEq, Int.reduceToNat, Nat.reduceMul, eq_self, implies_true, forall_const, h0, h1, h7, h8]
    exact ⟨_, rfl, fun i hi hx => absurd hx (hs i hi)⟩
theorem p38f (b : Nat) {mem : Mem} {o1 o2 v1 v2 l n : Nat} {t : Int} {x : Nat → Int} {f : Nat → AV} (ht : U64 t) (hn : n ≤ 6) (hl : l ≤ 6) (hf : ∀ i, i < l → f i = .int .i64 (x i)) (hx : ∀ i, i < l → 0 ≤ x i ∧ x i < n) (h1 : o1 < b) (h2 : o2 < b) (m1 : mem o1 = .var v1 [.fs l f]) (m2 : mem o2 = .var v2 [.int .u64 t]) :
    Fills b n 38 [.ptr o1 v1 0, .ptr o2 v2 0] (fun k => bit t (rowB (fun i => k.testBit (x i).toNat) l)) (fun q => q = o1 ∨ q = o2) mem := fun k hk m y hJ hA => by
  have n1 := (hJ o1 (.inl rfl)).trans m1
  have n2 := (hJ o2 (.inr rfl)).trans m2
  have hrl := rowB_lt (fun q => k.testBit (x q).toNat) l
  have hr64 : rowB (fun q => k.testBit (x q).toNat) l < 64 := Nat.lt_of_lt_of_le hrl (by
    have := Nat.pow_le_pow_right (n := 2) (by decide) hl
    simpa using this)
  obtain ⟨B, hBb⟩ : ∃ B, B = b + 100 := ⟨_, rfl⟩
  refine Fn.call fmix (g38 B) ?_
  unfold b38 q38
  simp -implicitDefEqProofs only [vqa, Nat.reduceEqDiff, Nat.reduceAdd, reduceIte, Nat.reduceLeDiff, Nat.reduceBEq, Nat.reduceLT, Nat.reduceSub, Int.reduceLT, Int.reduceLE, Int.reduceEq, Int.reduceToNat, Nat.reduceMul, eq_self, implies_true, forall_const, n1, n2]
  refine vFor l (fun i e m' => e 0 = y ∧ e 1 = .ptr o1 v1 0 ∧ e 2 = .ptr o2 v2 0 ∧ e 8 = .fs l f ∧ e 9 = .int .i64 l ∧ e 10 = .int .i64 i ∧ (∀ o, o < B → m' o = m o) ∧ Acc (B + 20) 4 1 i (fun j a => a = .bool (k.testBit (x j).toNat)) (e 5) m') ?_ ?_ ?_
  · simp -implicitDefEqProofs only [vqa, Nat.reduceEqDiff, Nat.reduceAdd, reduceIte, Nat.reduceLeDiff, Nat.reduceBEq, Nat.reduceLT, Nat.reduceSub, Int.reduceLT, Int.reduceLE, Int.reduceEq, Int.reduceToNat, Nat.reduceMul, eq_self, implies_true, forall_const]
    exact .none
  · rintro i e m' hi hi' ⟨e0, e1, e2, e8, e9, e10, hm, hB⟩
    obtain ⟨hx0, hxn⟩ := hx i hi
    have n15 := hm (b + 15) (by omega)
    obtain ⟨X, hX⟩ : ∃ X : Nat, x i = (X : Int) := ⟨(x i).toNat, by omega⟩
    have hXn : X < n := by omega
    have hfi := hf i hi
    rw [hX] at hfi
    have hXt : (x i).toNat = X := by omega
    unfold b38_0
    rcases hA with ⟨hz, _⟩ | ⟨ver, g, rfl, hr, hg⟩
    · omega
    have hgX : g X = .bool (k.testBit X) := hg X hXn
    rw [hr] at n15
    rcases hB with ⟨hz, h5⟩ | ⟨ver', g', h5, hm5, hg'⟩
    · subst hz
      have hi0 : (0 : Int) < (l : Int) := by omega
      simp -implicitDefEqProofs only [vqa, Nat.reduceEqDiff, Nat.reduceAdd, reduceIte, Nat.reduceLeDiff, Nat.reduceBEq, Nat.reduceLT, Nat.reduceSub, Int.reduceLT, Int.reduceLE, Int.reduceEq, Int.reduceToNat, Nat.reduceMul, eq_self, implies_true, forall_const, e0, e1, e2, e8, e9, e10, h5, hi0, hfi, n15, hgX]
      refine ⟨by omega, hXn, hi, rfl, fun o ho => ?_, .first (by rw [hXt])⟩
      rw [if_neg (by omega), if_neg (by omega)]; exact hm o ho
    · simp -implicitDefEqProofs only [vqa, Nat.reduceEqDiff, Nat.reduceAdd, reduceIte, Nat.reduceLeDiff, Nat.reduceBEq, Nat.reduceLT, Nat.reduceSub, Int.reduceLT, Int.reduceLE, Int.reduceEq, Int.reduceToNat, Nat.reduceMul, eq_self, implies_true, forall_const, e0, e1, e2, e8, e9, e10, h5, hm5, hi', hfi, n15, hgX]
      refine ⟨by omega, ⟨by omega, by omega⟩, hXn, ⟨by omega, by omega⟩, hi, wI (by omega) (by omega), fun o ho => ?_, .push hg' (by rw [hXt])⟩
      rw [if_neg (by omega), if_neg (by omega)]; exact hm o ho
  · rintro e m' ⟨e0, e1, e2, e8, e9, e10, hm, hB⟩
    have n2' := (hm o2 (by omega)).trans n2
    have hfin : ∀ o, o = o1 ∨ o = o2 → m' o = mem o := fun o ho => (hm o (by rcases ho with rfl | rfl <;> omega)).trans (hJ o ho)
    unfold b38_0
    simp -implicitDefEqProofs only [vqa, Nat.reduceEqDiff, Nat.reduceAdd, reduceIte, Nat.reduceLeDiff, Nat.reduceBEq, Nat.reduceLT, Nat.reduceSub, Int.reduceLT, Int.reduceLE, Int.reduceEq, Int.reduceToNat, Nat.reduceMul, eq_self, implies_true, forall_const, e0, e1, e2, e8, e9, e10]
    refine vAny [0, 1, 2, 3, 4] 5 allL (by kernel_rfl) (by kernel_rfl) ?_
    simp -implicitDefEqProofs only [vqa, Nat.reduceEqDiff, Nat.reduceAdd, reduceIte, Nat.reduceLeDiff, Nat.reduceBEq, Nat.reduceLT, Nat.reduceSub, Int.reduceLT, Int.reduceLE, Int.reduceEq, Int.reduceToNat, Nat.reduceMul, eq_self, implies_true, forall_const, e0, e1, e2, e8, e9, e10, n2']
    refine hB.call (R := fun r => r = .int .i64 ((rowB (fun q => k.testBit (x q).toNat) l : Nat) : Int)) (fun g hg => p34 l hl (fun q => k.testBit (x q).toNat) g hg) fun r hr => ⟨by subst hr; rfl, ?_⟩
    subst hr
    simp -implicitDefEqProofs only [vqa, Nat.reduceEqDiff, Nat.reduceAdd, reduceIte, Nat.reduceLeDiff, Nat.reduceBEq, Nat.reduceLT, Nat.reduceSub, Int.reduceLT, Int.reduceLE, Int.reduceEq, Int.reduceToNat, Nat.reduceMul, eq_self, implies_true, forall_const, e0, e1, e2, e8, e9, e10, n2']
    refine CallW.sc (p33 t _ ht hr64) rfl ⟨trivial, trivial, trivial⟩ fun r hr => ⟨by subst hr; rfl, ?_⟩
    subst hr
    simp -implicitDefEqProofs only [vqa, Nat.reduceEqDiff, Nat.reduceAdd, reduceIte, Nat.reduceLeDiff, Nat.reduceBEq, Nat.reduceLT, Nat.reduceSub, Int.reduceLT, Int.reduceLE, Int.reduceEq, Int.reduceToNat, Nat.reduceMul, eq_self, implies_true, forall_const, e0, e1, e2, e8, e9, e10, n2']
    exact hfin
theorem p18 (t n : Int) (l : Nat) (x : Nat → Int) (f : Nat → AV) (ht : U64 t) (hf : ∀ i, i < l → f i = .int .i64 (x i)) (hl : l ≤ 1048576) : Pure PP 18 [.int .u64 t, .fs l f, .int .i64 n] fun r => ∃ s, r = .int .u64 s ∧ MovT t s x l n := by
  refine Fn.pure fmix f18 ?_
  unfold a18 r18
  simp -implicitDefEqProofs only [vqa, Nat.reduceEqDiff, Nat.reduceAdd, reduceIte, Nat.reduceLeDiff, Nat.reduceBEq, Nat.reduceLT, Nat.reduceSub, Int.reduceLT, Int.reduceLE, Int.reduceEq, Int.reduceToNat, Nat.reduceMul, eq_self, implies_true, forall_const]
  have no : ¬ MvOk x l n → ∃ s, 0 = s ∧ MovT t s x l n := fun h => ⟨0, rfl, ⟨by decide, by decide⟩, fun _ => rfl, fun k => absurd k h⟩
  have nz : (∃ i, i < l ∧ MvB x n i) → ∃ s, 0 = s ∧ MovT t s x l n := fun ⟨i, hi, h⟩ => no fun q => q.2.2.2 i hi h
  refine ⟨fun c1 => ⟨fun c2 => ⟨fun c3 => no fun q => by have := q.2.2.1; omega, fun c3 => ?_⟩, fun c2 => no fun q => by have := q.2.1; omega⟩, fun c1 => no fun q => by have := q.1; omega⟩
  obtain ⟨N, rfl⟩ : ∃ N : Nat, n = (N : Int) := ⟨n.toNat, by omega⟩
  have hN : N ≤ 6 := by omega
  generalize (mem0 3).ver + 1 = V3
  generalize (mem0 4).ver + 1 = V4
  refine vFor l (fun i e m => e 2 = .int .i64 N ∧ e 3 = .ptr 3 V3 0 ∧ e 4 = .ptr 4 V4 0 ∧ e 20 = .fs l f ∧ e 21 = .int .i64 l ∧ e 22 = .int .i64 i ∧ m 3 = .var V3 [.int .u64 t] ∧ m 4 = .var V4 [.fs l f] ∧ ∀ j, j < i → ¬ MvB x N j) ?_ ?_ ?_
  · simp -implicitDefEqProofs only [vqa, Nat.reduceEqDiff, Nat.reduceAdd, reduceIte, Nat.reduceLeDiff, Nat.reduceBEq, Nat.reduceLT, Nat.reduceSub, Int.reduceLT, Int.reduceLE, Int.reduceEq, Int.reduceToNat, Nat.reduceMul, eq_self, implies_true, forall_const]
  · rintro i e m hi hi' ⟨h2, h3, h4, h20, h21, h22, m3, m4, hg⟩
    unfold a18_0
    simp -implicitDefEqProofs only [vqa, Nat.reduceEqDiff, Nat.reduceAdd, reduceIte, Nat.reduceLeDiff, Nat.reduceBEq, Nat.reduceLT, Nat.reduceSub, Int.reduceLT, Int.reduceLE, Int.reduceEq, Int.reduceToNat, Nat.reduceMul, eq_self, implies_true, forall_const, h2, h3, h4, h20, h21, h22, m3, m4, hi', hf i hi]
    refine ⟨by omega, fun d1 => ⟨fun d2 => ?_, fun d2 => nz ⟨i, hi, .inr (.inl d2)⟩⟩, fun d1 => nz ⟨i, hi, .inl d1⟩⟩
    refine CallW.sc (p37i l x f (x i) hf hl) rfl ⟨trivial, trivial, trivial⟩ fun r ⟨j, hr, hj⟩ => ⟨by subst hr; rfl, ?_⟩
    subst hr
    simp -implicitDefEqProofs only [vqa, Nat.reduceEqDiff, Nat.reduceAdd, reduceIte, Nat.reduceLeDiff, Nat.reduceBEq, Nat.reduceLT, Nat.reduceSub, Int.reduceLT, Int.reduceLE, Int.reduceEq, Int.reduceToNat, Nat.reduceMul, eq_self, implies_true, forall_const, h2, h3, h4, h20, h21, h22, m3, m4]
    have hji := hj i hi rfl
    refine ⟨fun d3 => nz ⟨i, hi, .inr (.inr ?_)⟩, fun d3 => ⟨hi, wI (by omega) (by omega), fun q hq => ?_⟩⟩
    · exact Classical.byContradiction fun h => d3 (hji.2 fun k hk e => h ⟨k, hk, e⟩)
    · by_cases e : q = i
      · subst e
        rintro (h | h | ⟨k, hk, h⟩)
        · exact d1 h
        · exact d2 h
        · exact hji.1 (Classical.not_not.1 d3) k hk h
      · exact hg q (by omega)
  · rintro e m ⟨h2, h3, h4, h20, h21, h22, m3, m4, hg⟩
    unfold a18_0
    simp -implicitDefEqProofs only [vqa, Nat.reduceEqDiff, Nat.reduceAdd, reduceIte, Nat.reduceLeDiff, Nat.reduceBEq, Nat.reduceLT, Nat.reduceSub, Int.reduceLT, Int.reduceLE, Int.reduceEq, Int.reduceToNat, Nat.reduceMul, eq_self, implies_true, forall_const, h2, h3, h4, h20, h21, h22, m3, m4]
    have hok : MvOk x l (N : Int) := ⟨by omega, by omega, by omega, hg⟩
    refine (p8 1000 N hN (J := fun o => o = 4 ∨ o = 3) (fun o ho => by rcases ho with rfl | rfl <;> decide) (p38f 1000 ht hN (show l ≤ 6 by omega) hf (fun i hi => by have h1 := hg i hi; unfold MvB at h1; omega) (by decide) (by decide) m4 m3)).mono fun r m' ⟨⟨s, hr, hsU, hsb⟩, _⟩ => ?_
    subst hr
    simp -implicitDefEqProofs only [vqa, Nat.reduceEqDiff, Nat.reduceAdd, reduceIte, Nat.reduceLeDiff, Nat.reduceBEq, Nat.reduceLT, Nat.reduceSub, Int.reduceLT, Int.reduceLE, Int.reduceEq, Int.reduceToNat, Nat.reduceMul, eq_self, implies_true, forall_const]
    exact ⟨s, rfl, hsU, fun h => absurd hok h, fun _ => hsb⟩
theorem flip_row {g' : Nat → AV} {k X i n : Nat} {c : Bool} (hg : ∀ j, j < n → g' j = .bool (if j < i then k.testBit j != X.testBit j else k.testBit j)) (hc : X.testBit i = c) :
    ∀ j, j < n → (bif decide (j = i) then AV.bool (!(k.testBit i == c)) else g' j) = .bool (if j < i + 1 then k.testBit j != X.testBit j else k.testBit j) := fun j hj => by
  by_cases e : j = i
  · subst e
    simp only [decide_true, cond_true, Nat.lt_succ_self, if_true, hc]
    rfl
  · simp only [e, decide_false, cond_false]
    rw [hg j hj]
    by_cases l : j < i
    · rw [if_pos l, if_pos (by omega)]
    · rw [if_neg l, if_neg (by omega)]
theorem p39f (b : Nat) {mem : Mem} {o1 o2 v1 v2 n X : Nat} {t : Int} (ht : U64 t) (hn : n ≤ 6) (hX : X < 2 ^ n) (h1 : o1 < b) (h2 : o2 < b) (m1 : mem o1 = .var v1 [.int .i64 X]) (m2 : mem o2 = .var v2 [.int .u64 t]) :
    Fills b n 39 [.ptr o1 v1 0, .ptr o2 v2 0] (fun k => bit t (k ^^^ X)) (fun q => q = o1 ∨ q = o2) mem := fun k hk m y hJ hA => by
  have n1 := (hJ o1 (.inl rfl)).trans m1
  have n2 := (hJ o2 (.inr rfl)).trans m2
  have h64 : 2 ^ n ≤ 64 := by
    have := Nat.pow_le_pow_right (n := 2) (by decide) hn
    simpa using this
  have hr64 : k ^^^ X < 64 := (xor_ii k (by omega) X (by omega)).2
  have d1 : (o1 = b + 15) = False := eq_false (by omega)
  have d2 : (o2 = b + 15) = False := eq_false (by omega)
  rcases hA with ⟨rfl, rfl⟩ | ⟨ver, g, rfl, hr, hg⟩
  · refine Fn.call fmix (g39 (b + 100)) ?_
    unfold b39 q39
    simp -implicitDefEqProofs only [vqa, Nat.reduceEqDiff, Nat.reduceAdd, reduceIte, Nat.reduceLeDiff, Nat.reduceBEq, Nat.reduceLT, Nat.reduceSub, Int.reduceLT, Int.reduceLE, Int.reduceEq, Int.reduceToNat, Nat.reduceMul, eq_self, implies_true, forall_const]
    refine vFor 0 (fun i e m' => e 0 = .cap0 ∧ e 2 = .ptr o2 v2 0 ∧ e 7 = .int .i64 0 ∧ e 8 = .int .i64 i ∧ m' = m) ?_ (fun i e m' hi => absurd hi (Nat.not_lt_zero _)) ?_
    · simp -implicitDefEqProofs only [vqa, Nat.reduceEqDiff, Nat.reduceAdd, reduceIte, Nat.reduceLeDiff, Nat.reduceBEq, Nat.reduceLT, Nat.reduceSub, Int.reduceLT, Int.reduceLE, Int.reduceEq, Int.reduceToNat, Nat.reduceMul, eq_self, implies_true, forall_const]
    · rintro e m' ⟨e0, e2, e7, e8, rfl⟩
      have e8 : e 8 = .int .i64 0 := e8
      have hk0 : k = 0 := by simpa using hk
      have hX0 : X = 0 := by simpa using hX
      subst hk0 hX0
      unfold b39_0
      simp -implicitDefEqProofs only [vqa, Nat.reduceEqDiff, Nat.reduceAdd, reduceIte, Nat.reduceLeDiff, Nat.reduceBEq, Nat.reduceLT, Nat.reduceSub, Int.reduceLT, Int.reduceLE, Int.reduceEq, Int.reduceToNat, Nat.reduceMul, eq_self, implies_true, forall_const, e0, e2, e7, e8]
      refine vAny [0, 1, 2, 3, 4] 5 allL (by kernel_rfl) (by kernel_rfl) ?_
      simp -implicitDefEqProofs only [vqa, Nat.reduceEqDiff, Nat.reduceAdd, reduceIte, Nat.reduceLeDiff, Nat.reduceBEq, Nat.reduceLT, Nat.reduceSub, Int.reduceLT, Int.reduceLE, Int.reduceEq, Int.reduceToNat, Nat.reduceMul, eq_self, implies_true, forall_const, e0, e2, e7, e8, n2]
      refine CallW.sc (p34 0 (by decide) (fun _ => false) (fun _ => .undef) fun i hi => absurd hi (Nat.not_lt_zero _)) ?_ ?_ fun r hr => ⟨by subst hr; rfl, ?_⟩
      · simp only [rsC, rs2, rs1, rs0, wk0, isFz0, vqa, Nat.reduceEqDiff, Nat.reduceAdd, reduceIte, Nat.reduceLeDiff, Nat.reduceBEq, Nat.reduceLT, Nat.reduceSub, Int.reduceLT, Int.reduceLE, Int.reduceEq, Int.reduceToNat, Nat.reduceMul, eq_self, implies_true, forall_const]
      · simp only [rsC, rs2, rs1, rs0, wk0, isFz0, vqa, Nat.reduceEqDiff, Nat.reduceAdd, reduceIte, Nat.reduceLeDiff, Nat.reduceBEq, Nat.reduceLT, Nat.reduceSub, Int.reduceLT, Int.reduceLE, Int.reduceEq, Int.reduceToNat, Nat.reduceMul, eq_self, implies_true, forall_const]
      subst hr
      simp -implicitDefEqProofs only [vqa, Nat.reduceEqDiff, Nat.reduceAdd, reduceIte, Nat.reduceLeDiff, Nat.reduceBEq, Nat.reduceLT, Nat.reduceSub, Int.reduceLT, Int.reduceLE, Int.reduceEq, Int.reduceToNat, Nat.reduceMul, eq_self, implies_true, forall_const, e0, e2, e7, e8, n2]
      refine CallW.sc (p33 t 0 ht (by decide)) rfl ⟨trivial, trivial, trivial⟩ fun r hr => ⟨by subst hr; rfl, ?_⟩
      subst hr
      simp -implicitDefEqProofs only [vqa, Nat.reduceEqDiff, Nat.reduceAdd, reduceIte, Nat.reduceLeDiff, Nat.reduceBEq, Nat.reduceLT, Nat.reduceSub, Int.reduceLT, Int.reduceLE, Int.reduceEq, Int.reduceToNat, Nat.reduceMul, eq_self, implies_true, forall_const, e0, e2, e7, e8, n2]
      exact ⟨rfl, hJ⟩
  · refine Fn.call fmix (g39 (b + 100)) ?_
    unfold b39 q39
    simp -implicitDefEqProofs only [vqa, Nat.reduceEqDiff, Nat.reduceAdd, reduceIte, Nat.reduceLeDiff, Nat.reduceBEq, Nat.reduceLT, Nat.reduceSub, Int.reduceLT, Int.reduceLE, Int.reduceEq, Int.reduceToNat, Nat.reduceMul, eq_self, implies_true, forall_const, n1, n2, hr]
    refine vFor n (fun i e m' => e 0 = .sl (b + 15) ver n ∧ e 1 = .ptr o1 v1 0 ∧ e 2 = .ptr o2 v2 0 ∧ e 7 = .int .i64 n ∧ e 8 = .int .i64 i ∧ (∀ o, o < b → m' o = m o) ∧ ∃ g', m' (b + 15) = .row ver 4 1 n g' ∧ ∀ j, j < n → g' j = .bool (if j < i then k.testBit j != X.testBit j else k.testBit j)) ?_ ?_ ?_
    · simp -implicitDefEqProofs only [vqa, Nat.reduceEqDiff, Nat.reduceAdd, reduceIte, Nat.reduceLeDiff, Nat.reduceBEq, Nat.reduceLT, Nat.reduceSub, Int.reduceLT, Int.reduceLE, Int.reduceEq, Int.reduceToNat, Nat.reduceMul, eq_self, implies_true, forall_const, n1, n2, hr]
      exact ⟨g, rfl, fun j hj => hg j hj⟩
    · rintro i e m' hi hi' ⟨e0, e1, e2, e7, e8, hm, g', hr', hg'⟩
      have n1' := (hm o1 h1).trans n1
      have hgi := hg' i hi
      rw [if_neg (Nat.lt_irrefl i)] at hgi
      have ha := and_bit X (by omega) i (by omega)
      unfold b39_0
      cases hXi : X.testBit i with
      | true =>
        rw [hXi, if_pos rfl] at ha
        simp -implicitDefEqProofs only [vqa, Nat.reduceEqDiff, Nat.reduceAdd, reduceIte, Nat.reduceLeDiff, Nat.reduceBEq, Nat.reduceLT, Nat.reduceSub, Int.reduceLT, Int.reduceLE, Int.reduceEq, Int.reduceToNat, Nat.reduceMul, eq_self, implies_true, forall_const, e0, e1, e2, e7, e8, n1', hr', hi', hgi]
        refine vAny [0, 1, 2, 3, 4, 5, 6, 7, 8, 9, 10, 11, 12, 13] 13 allL (by kernel_rfl) (by kernel_rfl) ?_
        simp -implicitDefEqProofs only [vqa, Nat.reduceEqDiff, Nat.reduceAdd, reduceIte, Nat.reduceLeDiff, Nat.reduceBEq, Nat.reduceLT, Nat.reduceSub, Int.reduceLT, Int.reduceLE, Int.reduceEq, Int.reduceToNat, Nat.reduceMul, eq_self, implies_true, forall_const, e0, e1, e2, e7, e8, n1', hr', hi', hgi, ha]
        exact ⟨by omega, hi, by omega, by omega, hi, hi, wI (by omega) (by omega), fun o ho => by rw [if_neg (by omega)]; exact hm o ho, _, rfl, flip_row hg' hXi⟩
      | false =>
        rw [hXi, if_neg (by simp)] at ha
        simp -implicitDefEqProofs only [vqa, Nat.reduceEqDiff, Nat.reduceAdd, reduceIte, Nat.reduceLeDiff, Nat.reduceBEq, Nat.reduceLT, Nat.reduceSub, Int.reduceLT, Int.reduceLE, Int.reduceEq, Int.reduceToNat, Nat.reduceMul, eq_self, implies_true, forall_const, e0, e1, e2, e7, e8, n1', hr', hi', hgi]
        refine vAny [0, 1, 2, 3, 4, 5, 6, 7, 8, 9, 10, 11, 12, 13] 13 allL (by kernel_rfl) (by kernel_rfl) ?_
        simp -implicitDefEqProofs only [vqa, Nat.reduceEqDiff, Nat.reduceAdd, reduceIte, Nat.reduceLeDiff, Nat.reduceBEq, Nat.reduceLT, Nat.reduceSub, Int.reduceLT, Int.reduceLE, Int.reduceEq, Int.reduceToNat, Nat.reduceMul, eq_self, implies_true, forall_const, e0, e1, e2, e7, e8, n1', hr', hi', hgi, ha]
        exact ⟨by omega, hi, by omega, by omega, hi, hi, wI (by omega) (by omega), fun o ho => by rw [if_neg (by omega)]; exact hm o ho, _, rfl, flip_row hg' hXi⟩
    · rintro e m' ⟨e0, e1, e2, e7, e8, hm, g', hr', hg'⟩
      have n2' := (hm o2 h2).trans n2
      have hrx := rowB_xor hk hX
      unfold b39_0
      simp -implicitDefEqProofs only [vqa, Nat.reduceEqDiff, Nat.reduceAdd, reduceIte, Nat.reduceLeDiff, Nat.reduceBEq, Nat.reduceLT, Nat.reduceSub, Int.reduceLT, Int.reduceLE, Int.reduceEq, Int.reduceToNat, Nat.reduceMul, eq_self, implies_true, forall_const, e0, e1, e2, e7, e8]
      refine vAny [0, 1, 2, 3, 4] 5 allL (by kernel_rfl) (by kernel_rfl) ?_
      simp -implicitDefEqProofs only [vqa, Nat.reduceEqDiff, Nat.reduceAdd, reduceIte, Nat.reduceLeDiff, Nat.reduceBEq, Nat.reduceLT, Nat.reduceSub, Int.reduceLT, Int.reduceLE, Int.reduceEq, Int.reduceToNat, Nat.reduceMul, eq_self, implies_true, forall_const, e0, e1, e2, e7, e8, n2']
      refine CallW.sc (p34 n hn (fun q => k.testBit q != X.testBit q) g' fun i hi => by rw [hg' i hi, if_pos hi]) ?_ ?_ fun r hr => ⟨by subst hr; rfl, ?_⟩
      · simp only [rsC, rs2, rs1, rs0, vqa, Nat.reduceEqDiff, Nat.reduceAdd, reduceIte, Nat.reduceLeDiff, Nat.reduceBEq, Nat.reduceLT, Nat.reduceSub, Int.reduceLT, Int.reduceLE, Int.reduceEq, Int.reduceToNat, Nat.reduceMul, eq_self, implies_true, forall_const, hr']
      · simp only [rsC, rs2, rs1, rs0, vqa, Nat.reduceEqDiff, Nat.reduceAdd, reduceIte, Nat.reduceLeDiff, Nat.reduceBEq, Nat.reduceLT, Nat.reduceSub, Int.reduceLT, Int.reduceLE, Int.reduceEq, Int.reduceToNat, Nat.reduceMul, eq_self, implies_true, forall_const, hr']
      subst hr
      simp -implicitDefEqProofs only [vqa, Nat.reduceEqDiff, Nat.reduceAdd, reduceIte, Nat.reduceLeDiff, Nat.reduceBEq, Nat.reduceLT, Nat.reduceSub, Int.reduceLT, Int.reduceLE, Int.reduceEq, Int.reduceToNat, Nat.reduceMul, eq_self, implies_true, forall_const, e0, e1, e2, e7, e8, n2']
      rw [hrx]
      refine CallW.sc (p33 t _ ht hr64) rfl ⟨trivial, trivial, trivial⟩ fun r hr => ⟨by subst hr; rfl, ?_⟩
      subst hr
      simp -implicitDefEqProofs only [vqa, Nat.reduceEqDiff, Nat.reduceAdd, reduceIte, Nat.reduceLeDiff, Nat.reduceBEq, Nat.reduceLT, Nat.reduceSub, Int.reduceLT, Int.reduceLE, Int.reduceEq, Int.reduceToNat, Nat.reduceMul, eq_self, implies_true, forall_const, e0, e1, e2, e7, e8, n2']
      exact fun o ho => (hm o (by rcases ho with rfl | rfl <;> omega)).trans (hJ o ho)
theorem p20 (t x n : Int) (ht : U64 t) : Pure PP 20 [.int .u64 t, .int .i64 x, .int .i64 n] fun r => ∃ s, r = .int .u64 s ∧ FlpT t s x n := by
  refine Fn.pure fmix f20 ?_
  unfold a20 r20
  have no : ¬ FlpOk x n → ∃ s, 0 = s ∧ FlpT t s x n := fun h => ⟨0, rfl, ⟨by decide, by decide⟩, fun _ => rfl, fun k => absurd k h⟩
  simp -implicitDefEqProofs only [vqa, Nat.reduceEqDiff, Nat.reduceAdd, reduceIte, Nat.reduceLeDiff, Nat.reduceBEq, Nat.reduceLT, Nat.reduceSub, Int.reduceLT, Int.reduceLE, Int.reduceEq, Int.reduceToNat, Nat.reduceMul, eq_self, implies_true, forall_const]
  generalize (mem0 3).ver + 1 = V3
  generalize (mem0 4).ver + 1 = V4
  refine vAny [0, 1, 2, 3, 4, 5, 6, 7, 8, 9, 10, 11, 12, 13, 14, 15, 16] 17 allL (by kernel_rfl) (by kernel_rfl) ?_
  simp -implicitDefEqProofs only [vqa, Nat.reduceEqDiff, Nat.reduceAdd, reduceIte, Nat.reduceLeDiff, Nat.reduceBEq, Nat.reduceLT, Nat.reduceSub, Int.reduceLT, Int.reduceLE, Int.reduceEq, Int.reduceToNat, Nat.reduceMul, eq_self, implies_true, forall_const]
  refine ⟨fun c1 => ⟨fun c2 => ⟨fun c3 => ?_, fun c3 => no fun q => by have := q.2.2.1; omega⟩, fun c2 => no fun q => by have := q.2.1; omega⟩, fun c1 => no fun q => by have := q.1; omega⟩
  obtain ⟨N, rfl⟩ : ∃ N : Nat, n = (N : Int) := ⟨n.toNat, by omega⟩
  obtain ⟨X, rfl⟩ : ∃ X : Nat, x = (X : Int) := ⟨x.toNat, by omega⟩
  have hN : N ≤ 6 := by omega
  have hs := shl_one (show N < 7 by omega)
  have h64 : 2 ^ N ≤ 64 := by
    have := Nat.pow_le_pow_right (n := 2) (by decide) hN
    simpa using this
  have h1 : 1 ≤ 2 ^ N := Nat.one_le_two_pow
  rw [Int.toNat_natCast, hs, wI (n := ((2 ^ N : Nat) : Int) - 1) (by omega) (by omega)]
  refine ⟨by omega, fun c4 => no fun q => ?_, fun c4 => ?_⟩
  · have := q.2.2.2
    rw [Int.toNat_natCast] at this
    omega
  have hX : X < 2 ^ N := by omega
  have hok : FlpOk (X : Int) (N : Int) := ⟨by omega, by omega, by omega, by rw [Int.toNat_natCast]; omega⟩
  refine (p8 1000 N hN (J := fun o => o = 4 ∨ o = 3) (fun o ho => by rcases ho with rfl | rfl <;> decide) (p39f 1000 ht hN hX (by decide) (by decide) (set_same _ _ _) ((set_ne (by decide) _ _).trans (set_same _ _ _)))).mono fun r m' ⟨⟨s, hr, hsU, hsb⟩, _⟩ => ?_
  subst hr
  simp -implicitDefEqProofs only [vqa, Nat.reduceEqDiff, Nat.reduceAdd, reduceIte, Nat.reduceLeDiff, Nat.reduceBEq, Nat.reduceLT, Nat.reduceSub, Int.reduceLT, Int.reduceLE, Int.reduceEq, Int.reduceToNat, Nat.reduceMul, eq_self, implies_true, forall_const]
  exact ⟨s, rfl, hsU, fun h => absurd hok h, fun _ => hsb⟩
end Go.Ab
