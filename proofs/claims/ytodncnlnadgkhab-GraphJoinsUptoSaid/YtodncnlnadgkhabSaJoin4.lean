/- Walks: Beside. -/
import Derived.Test.YtodncnlnadgkhabSaJoin3
import Derived.Test.YtodncnlnadgkhabLwCone
set_option linter.unusedSimpArgs false
set_option linter.unusedVariables false
namespace Go.Ab
open Go
def b100 (b : Nat) : AC := (.seq (.ops [⟨(some 6), none, (.e (.box (b + 6) 0 (.t 0)))⟩, ⟨(some 7), none, (.e (.box (b + 7) 0 (.t 1)))⟩, ⟨(some 8), none, (.e (.box (b + 8) 0 (.t 2)))⟩, ⟨(some 9), none, (.v (.mv (.c .nilf)))⟩]) (.seq (.ops [⟨(some 10), none, (.v (.mkfn 101 [(.t 6), (.t 3), (.t 8), (.t 4), (.t 7), (.t 5)]))⟩, ⟨(some 9), none, (.v (.mv (.t 10)))⟩]) .ret))
def q100 : List AI := [(.mv (.t 9))]
theorem g100 (b : Nat) : Fn PP 100 6 (b100 b) q100 := Fn.ofB b (fn := Go.Proofs.Try.f100) (by kernel_rfl) (by kernel_rfl) (by kernel_rfl)
def a101 : AC := (.seq (.ops [⟨(some 8), none, (.v (.mv (.c (.int .i64 0))))⟩]) (.seq (.ops [⟨(some 11), none, (.v (.mv (.t 0)))⟩, ⟨(some 12), none, (.v (.bin .shr (.t 11) (.c (.int .u64 1))))⟩, ⟨(some 9), none, (.v (.mv (.t 12)))⟩]) (.seq (.seq (.ops [⟨(some 13), none, (.v (.mv (.t 9)))⟩, ⟨(some 14), none, (.v (.bin .sub (.t 13) (.c (.int .i64 1))))⟩, ⟨(some 15), none, (.v (.fld 0 (.t 1)))⟩, ⟨(some 16), none, (.v (.load 1 false (.t 15)))⟩, ⟨(some 17), none, (.v (.len (.t 16)))⟩, ⟨(some 18), none, (.v (.bin .sub (.t 14) (.t 17)))⟩, ⟨(some 10), none, (.v (.mv (.t 18)))⟩]) (.block 0 (.seq (.ops [⟨(some 20), none, (.v (.mv (.t 10)))⟩, ⟨(some 21), none, (.v (.fld 2 (.t 1)))⟩, ⟨(some 22), none, (.v (.load 1 false (.t 21)))⟩, ⟨(some 23), none, (.v (.len (.t 22)))⟩, ⟨(some 24), none, (.v (.bin .geq (.t 20) (.t 23)))⟩, ⟨(some 19), none, (.v (.mv (.t 24)))⟩]) (.cond (.t 19) (.ops [⟨(some 25), none, (.v (.load 1 false (.t 2)))⟩, ⟨(some 26), none, (.v (.load 1 false (.t 3)))⟩, ⟨(some 27), none, (.v (.bin .add (.t 25) (.t 26)))⟩, ⟨(some 28), none, (.v (.mv (.t 10)))⟩, ⟨(some 29), none, (.v (.bin .add (.t 27) (.t 28)))⟩, ⟨(some 30), none, (.v (.fld 2 (.t 1)))⟩, ⟨(some 31), none, (.v (.load 1 false (.t 30)))⟩, ⟨(some 32), none, (.v (.len (.t 31)))⟩, ⟨(some 33), none, (.v (.bin .sub (.t 29) (.t 32)))⟩, ⟨(some 9), none, (.v (.mv (.t 33)))⟩]) (.seq (.ops [⟨(some 35), none, (.v (.mv (.t 10)))⟩, ⟨(some 36), none, (.v (.bin .geq (.t 35) (.c (.int .i64 0))))⟩, ⟨(some 34), none, (.v (.mv (.t 36)))⟩]) (.cond (.t 34) (.ops [⟨(some 37), none, (.v (.load 1 false (.t 4)))⟩, ⟨(some 38), none, (.v (.load 1 false (.t 5)))⟩, ⟨(some 39), none, (.v (.bin .add (.t 37) (.t 38)))⟩, ⟨(some 40), none, (.v (.mv (.t 10)))⟩, ⟨(some 41), none, (.v (.bin .add (.t 39) (.t 40)))⟩, ⟨(some 9), none, (.v (.mv (.t 41)))⟩]) (.seq (.ops [⟨(some 43), none, (.v (.mv (.t 9)))⟩, ⟨(some 44), none, (.v (.bin .gtr (.t 43) (.c (.int .i64 0))))⟩, ⟨(some 42), none, (.v (.mv (.t 44)))⟩]) (.cond (.t 42) (.any [⟨(some 45), none, (.v (.load 1 false (.t 6)))⟩, ⟨(some 46), none, (.v (.fld 0 (.t 1)))⟩, ⟨(some 47), none, (.v (.load 1 false (.t 46)))⟩, ⟨(some 48), none, (.v (.mv (.t 9)))⟩, ⟨(some 49), none, (.v (.bin .sub (.t 48) (.c (.int .i64 1))))⟩, ⟨(some 50), none, (.v (.idx 1 (.t 47) (.t 49)))⟩, ⟨(some 51), none, (.v (.load 1 false (.t 50)))⟩, ⟨(some 52), none, (.call (.c (.fn 97 [])) [(.t 45), (.t 51)])⟩, ⟨(some 53), none, (.v (.bin .add (.c (.int .i64 1)) (.t 52)))⟩, ⟨(some 9), none, (.v (.mv (.t 53)))⟩] [[], [], [1], [], [3], [2, 4], [5], [0, 6], [7], [8, 7, 0, 1, 2, 3, 4, 5, 6, 7, 8]]) .skip)))))))) (.seq (.ops [⟨(some 54), none, (.v (.mv (.t 9)))⟩, ⟨(some 55), none, (.v (.bin .mul (.c (.int .i64 2)) (.t 54)))⟩, ⟨(some 56), none, (.v (.mv (.t 0)))⟩, ⟨(some 57), none, (.v (.bin .and (.t 56) (.c (.int .i64 1))))⟩, ⟨(some 58), none, (.v (.bin .or (.t 55) (.t 57)))⟩, ⟨(some 8), none, (.v (.mv (.t 58)))⟩]) .ret))))
def r101 : List AI := [(.mv (.t 8))]
theorem f101 : Fn PP 101 7 a101 r101 := Fn.of (fn := Go.Proofs.Try.f101) (by kernel_rfl) (by kernel_rfl) (by kernel_rfl)
/-- What the function v of literals says, wherever I holds. -/
def ToL (v : AV) (F : Int → Int) (n : Nat) (I : Mem → Prop) : Prop := ∃ k caps, v = .fn k caps ∧ ∀ mem, I mem → ∀ l : Int, litOk n l → CallW PP k (.int .i64 l :: caps) mem fun r m => r = .int .i64 (F l) ∧ m = mem
theorem p101 {g : Gra} {cs : List AV} (hg : GraC cs g) (gd : g.Good) {T : List ByteArray} {c rr xx : Nat} (hT : T.length ≤ 256) (hc : c ≤ 576) (hr : rr ≤ 288) (hx : xx ≤ 4000) (hin : ∀ i, i < g.ni → g.inn i ∈ T)
    {mem : Mem} {o6 v6 o3 v3 o8 v8 o4 v4 o7 v7 o5 v5 id ver : Nat} {nm : Nat → AV} (m6 : mem o6 = .var v6 cs) (m3 : mem o3 = .var v3 [.int .i64 (1 + T.length + c : Nat)]) (m8 : mem o8 = .var v8 [.int .i64 xx]) (m4 : mem o4 = .var v4 [.int .i64 (1 + T.length : Nat)]) (m7 : mem o7 = .var v7 [.int .i64 rr]) (m5 : mem o5 = .var v5 [.sl id ver T.length]) (mi : mem id = .row ver 9 1 T.length nm) (hnm : ∀ k, k < T.length → nm k = .str (nmA T k)) (l : Int) (hl : litOk g.nodes l) :
    CallW PP 101 [.int .i64 l, .ptr o6 v6 0, .ptr o3 v3 0, .ptr o8 v8 0, .ptr o4 v4 0, .ptr o7 v7 0, .ptr o5 v5 0] mem fun r m => r = .int .i64 (jL (jN T c g rr xx) l) ∧ m = mem := by
  obtain ⟨f0, f1, f2, f3, f4, rfl, g0, g1, g2, g3, g4⟩ := hg
  have b1 := gd.ni; have b2 := gd.nr; have b3 := gd.na
  obtain ⟨l0, l1⟩ := hl
  have hn : g.nodes = 1 + g.ni + g.nr + g.na := rfl
  obtain ⟨i, hi⟩ : ∃ i : Nat, l / 2 = i := ⟨(l / 2).toNat, by omega⟩
  have hin' : i < g.nodes := by omega
  have fin : ∀ {t : Nat}, t ≤ 100000 → t = jN T c g rr xx i → bitop .or .i64 (IntKind.i64.wrap (2 * (t : Nat))) (bitop .and .i64 l 1) = jL (jN T c g rr xx) l := fun {t} ht e => by
    rw [wI (by omega) (by omega), and_one l0 (by omega), or_low (by omega) (by omega) (by omega) (by omega)]
    unfold jL; rw [hi, Int.toNat_natCast, ← e]
  have hsh : l.fdiv (2 ^ min 1 64) = (i : Int) := (shr_one l0).trans hi
  have w1 : IntKind.i64.wrap (IntKind.i64.wrap ((i : Int) - 1) - (g.ni : Nat)) = (i : Int) - 1 - g.ni := by rw [wI (n := (i : Int) - 1) (by omega) (by omega), wI (by omega) (by omega)]
  refine Fn.call fmix f101 ?_
  unfold a101 r101
  simp -implicitDefEqProofs only [vqa, Nat.reduceEqDiff, Nat.reduceAdd, reduceIte, Nat.reduceLeDiff, Nat.reduceBEq, Nat.reduceLT, Nat.reduceSub, Int.reduceLT, Int.reduceLE, Int.reduceEq, Int.reduceToNat, Nat.reduceMul, eq_self, implies_true, forall_const, m6, m3, m8, m4, m7, m5, mi, hsh, w1]
  refine ⟨fun h1 => ?_, fun h1 => ⟨fun h2 => ?_, fun h2 => ⟨fun h3 => ?_, fun h3 => ?_⟩⟩⟩
  · rw [wI (n := ((1 + T.length + c : Nat) : Int) + (xx : Nat)) (by omega) (by omega), wI (n := ((1 + T.length + c : Nat) : Int) + (xx : Nat) + ((i : Int) - 1 - g.ni)) (by omega) (by omega), wI (n := ((1 + T.length + c : Nat) : Int) + (xx : Nat) + ((i : Int) - 1 - g.ni) - g.nr) (by omega) (by omega)]
    rw [show ((1 + T.length + c : Nat) : Int) + (xx : Nat) + ((i : Int) - 1 - g.ni) - g.nr = ((1 + T.length + c + xx + (i - 1 - g.ni - g.nr) : Nat) : Int) by omega]
    exact fin (by omega) (by unfold jN; rw [if_pos (by omega)])
  · rw [wI (n := ((1 + T.length : Nat) : Int) + (rr : Nat)) (by omega) (by omega), wI (n := ((1 + T.length : Nat) : Int) + (rr : Nat) + ((i : Int) - 1 - g.ni)) (by omega) (by omega)]
    rw [show ((1 + T.length : Nat) : Int) + (rr : Nat) + ((i : Int) - 1 - g.ni) = ((1 + T.length + rr + (i - 1 - g.ni) : Nat) : Int) by omega]
    exact fin (by omega) (by unfold jN; rw [if_neg (by omega), if_pos (by omega)])
  · obtain ⟨j, rfl⟩ : ∃ j, i = j + 1 := ⟨i - 1, by omega⟩
    have hj : j < g.ni := by omega
    have hj' : (j : Int) < (g.ni : Nat) := by omega
    have w : IntKind.i64.wrap (((j + 1 : Nat) : Int) - 1) = (j : Nat) := by rw [wI (by omega) (by omega)]; omega
    have hsn := seen_nm.2 (hin j hj)
    have hf := (fstI_mem hsn).1
    refine vAny [0, 1, 2, 3, 4, 5, 6, 7, 8, 9] 10 allL (by kernel_rfl) (by kernel_rfl) ?_
    simp -implicitDefEqProofs only [vqa, Nat.reduceEqDiff, Nat.reduceAdd, reduceIte, Nat.reduceLeDiff, Nat.reduceBEq, Nat.reduceLT, Nat.reduceSub, Int.reduceLT, Int.reduceLE, Int.reduceEq, Int.reduceToNat, Nat.reduceMul, eq_self, implies_true, forall_const, m6, m3, m8, m4, m7, m5, mi, hsh, w1, w, hj', g0 j hj]
    refine ⟨by omega, ?_⟩
    refine CallW.sc (p97i T.length (nmA T) nm (g.inn j) hnm (by omega) hsn) ?_ ?_ fun r hr => ⟨by subst hr; rfl, ?_⟩
    · simp only [rsC, rs2, rs1, rs0, vqa, Nat.reduceEqDiff, Nat.reduceAdd, reduceIte, Nat.reduceLeDiff, Nat.reduceBEq, Nat.reduceLT, Nat.reduceSub, Int.reduceLT, Int.reduceLE, Int.reduceEq, Int.reduceToNat, Nat.reduceMul, eq_self, implies_true, forall_const, mi]
    · simp only [rsC, rs2, rs1, rs0, vqa, Nat.reduceEqDiff, Nat.reduceAdd, reduceIte, Nat.reduceLeDiff, Nat.reduceBEq, Nat.reduceLT, Nat.reduceSub, Int.reduceLT, Int.reduceLE, Int.reduceEq, Int.reduceToNat, Nat.reduceMul, eq_self, implies_true, forall_const, mi]
    subst hr
    simp -implicitDefEqProofs only [vqa, Nat.reduceEqDiff, Nat.reduceAdd, reduceIte, Nat.reduceLeDiff, Nat.reduceBEq, Nat.reduceLT, Nat.reduceSub, Int.reduceLT, Int.reduceLE, Int.reduceEq, Int.reduceToNat, Nat.reduceMul, eq_self, implies_true, forall_const, m6, m3, m8, m4, m7, m5, mi]
    rw [wI (n := (1 : Int) + (fstI (nmA T) (g.inn j) T.length : Nat)) (by omega) (by omega)]
    rw [show (1 : Int) + (fstI (nmA T) (g.inn j) T.length : Nat) = ((1 + fstI (nmA T) (g.inn j) T.length : Nat) : Int) by omega]
    exact fin (by omega) (by unfold jN; rw [if_neg (by omega), if_neg (by omega), if_pos (by omega)]; rfl)
  · obtain rfl : i = 0 := by omega
    exact fin (t := 0) (by omega) (by unfold jN; rw [if_neg (by omega), if_neg (by omega), if_neg (by omega)])

theorem p100 (b : Nat) (hb : 100 ≤ b) {mem : Mem} {g : Gra} {cs : List AV} (hg : GraC cs g) {rr xx : Int} {V11 V10 V6 : Nat} :
    CallW PP 100 [.agg cs, .int .i64 rr, .int .i64 xx, .ptr 11 V11 0, .ptr 10 V10 0, .ptr 6 V6 0] mem fun r m => ∃ W6 W7 W8, r = .fn 101 [.ptr (b + 6) W6 0, .ptr 11 V11 0, .ptr (b + 8) W8 0, .ptr 10 V10 0, .ptr (b + 7) W7 0, .ptr 6 V6 0] ∧ m (b + 6) = .var W6 cs ∧ m (b + 7) = .var W7 [.int .i64 rr] ∧ m (b + 8) = .var W8 [.int .i64 xx] ∧ Keeps b mem m := by
  obtain ⟨f0, f1, f2, f3, f4, rfl, _⟩ := hg
  refine Fn.call fmix (g100 b) ?_
  unfold b100 q100
  simp -implicitDefEqProofs only [vqa, Nat.reduceEqDiff, Nat.reduceAdd, reduceIte, Nat.reduceLeDiff, Nat.reduceBEq, Nat.reduceLT, Nat.reduceSub, Int.reduceLT, Int.reduceLE, Int.reduceEq, Int.reduceToNat, Nat.reduceMul, eq_self, implies_true, forall_const]
  exact ⟨_, _, _, rfl, rfl, rfl, rfl⟩
end Go.Ab
