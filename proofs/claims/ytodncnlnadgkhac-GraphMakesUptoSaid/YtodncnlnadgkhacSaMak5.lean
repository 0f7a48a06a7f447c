/- Walks: the maker's Graph. -/
import Derived.Test.YtodncnlnadgkhacSaMak2
import Derived.Test.YtodncnlnadgkhacFwT
import Derived.Test.YtodncnlnadgkhacSaGSame
import Derived.Test.YtodncnlnadgkhacSaGNil
import Derived.Test.YtodncnlnadgkhacFwZ
set_option linter.unusedSimpArgs false
set_option linter.unusedVariables false
namespace Go.Ab
open Go
def b15_0 (b : Nat) : AC := (.seq (.ops [⟨(some 52), none, (.v (.bin .lss (.t 51) (.t 50)))⟩]) (.seq (.cond (.t 52) .skip (.exit 0)) (.seq (.block 1 (.seq (.ops [⟨(some 53), none, (.v (.mv (.t 51)))⟩, ⟨(some 54), none, (.v (.idx 1 (.t 49) (.t 51)))⟩, ⟨(some 55), none, (.v (.load 1 false (.t 54)))⟩, ⟨(some 11), none, (.v (.mv (.t 53)))⟩, ⟨(some 12), none, (.v (.mv (.t 55)))⟩]) (.ops [⟨(some 56), none, (.v (.fld 2 (.t 10)))⟩, ⟨(some 57), none, (.v (.load 1 false (.t 56)))⟩, ⟨(some 58), none, (.v (.mv (.t 11)))⟩, ⟨(some 59), none, (.v (.mv (.t 12)))⟩, ⟨(some 60), none, (.v (.idx 3 (.t 57) (.t 58)))⟩, ⟨(some 61), none, (.v (.fld 1 (.t 60)))⟩, ⟨none, none, (.e (.store 1 (.t 61) (.t 59)))⟩]))) (.ops [⟨(some 62), none, (.v (.bin .add (.t 51) (.c (.int .i64 1))))⟩, ⟨(some 51), none, (.v (.mv (.t 62)))⟩]))))
def b15 (b : Nat) : AC := (.seq (.ops [⟨(some 8), none, (.e (.alloc (b + 8) [.cap0, .cap0, .cap0, .cap0, .cap0]))⟩, ⟨(some 9), none, (.v (.mv (.c (.int .i64 0))))⟩]) (.seq (.seq (.ops [⟨(some 14), none, (.v (.mv (.t 0)))⟩, ⟨(some 15), none, (.v (.nilck (.t 14)))⟩, ⟨(some 16), none, (.v (.fld 4 (.t 15)))⟩, ⟨(some 17), none, (.v (.load 1 false (.t 16)))⟩, ⟨(some 18), none, (.v (.bin .neq (.t 17) (.c (.int .i64 0))))⟩]) (.cond (.t 18) (.seq (.any [⟨(some 19), none, (.v (.build [.cap0, .cap0, .cap0, .cap0, .cap0] []))⟩, ⟨(some 20), none, (.v (.mv (.t 0)))⟩, ⟨(some 21), none, (.v (.nilck (.t 20)))⟩, ⟨(some 22), none, (.v (.fld 4 (.t 21)))⟩, ⟨(some 23), none, (.v (.load 1 false (.t 22)))⟩, ⟨none, none, (.e (.store 5 (.t 8) (.t 19)))⟩, ⟨(some 9), none, (.v (.mv (.t 23)))⟩] [[], [], [1], [2], [3], [0, 0], [4, 5, 0, 1, 2, 3, 4, 5]]) .ret) .skip)) (.seq (.seq (.ops [⟨(some 24), none, (.v (.mv (.t 3)))⟩, ⟨(some 25), none, (.v (.len (.t 24)))⟩, ⟨(some 26), none, (.v (.mv (.t 0)))⟩, ⟨(some 27), none, (.v (.nilck (.t 26)))⟩, ⟨(some 28), none, (.v (.fld 1 (.t 27)))⟩, ⟨(some 29), none, (.v (.load 1 false (.t 28)))⟩, ⟨(some 30), none, (.v (.len (.t 29)))⟩, ⟨(some 31), none, (.v (.bin .neq (.t 25) (.t 30)))⟩]) (.cond (.t 31) (.seq (.ops [⟨(some 32), none, (.v (.build [.cap0, .cap0, .cap0, .cap0, .cap0] []))⟩, ⟨none, none, (.e (.store 5 (.t 8) (.t 32)))⟩, ⟨(some 9), none, (.v (.mv (.c (.int .i64 4))))⟩]) .ret) .skip)) (.seq (.any [⟨(some 33), none, (.v (.mv (.t 0)))⟩, ⟨(some 34), none, (.v (.nilck (.t 33)))⟩, ⟨(some 35), none, (.v (.fld 0 (.t 34)))⟩, ⟨(some 36), none, (.v (.load 1 false (.t 35)))⟩, ⟨(some 37), none, (.v (.mv (.t 1)))⟩, ⟨(some 38), none, (.v (.mv (.t 0)))⟩, ⟨(some 39), none, (.v (.nilck (.t 38)))⟩, ⟨(some 40), none, (.v (.fld 1 (.t 39)))⟩, ⟨(some 41), none, (.v (.load 1 false (.t 40)))⟩, ⟨(some 42), none, (.v (.mv (.t 0)))⟩, ⟨(some 43), none, (.v (.nilck (.t 42)))⟩, ⟨(some 44), none, (.v (.fld 2 (.t 43)))⟩, ⟨(some 45), none, (.v (.load 1 false (.t 44)))⟩, ⟨(some 46), none, (.v (.mv (.t 2)))⟩, ⟨(some 47), none, (.v (.build [.cap0, .cap0, .cap0, .cap0, .cap0] [(0, (1, (.t 36))), (1, (1, (.t 37))), (2, (1, (.t 41))), (3, (1, (.t 45))), (4, (1, (.t 46)))]))⟩, ⟨(some 48), none, (.call (.c (.fn 45 [])) [(.t 47)])⟩, ⟨(some 10), none, (.e (.alloc (b + 10) [.cap0, .cap0, .cap0, .cap0, .cap0]))⟩, ⟨none, none, (.e (.store 5 (.t 10) (.t 48)))⟩] [[], [0], [1], [2], [], [], [5], [6], [7], [], [9], [10], [11], [], [3, 4, 8, 12, 13], [14], [], [16, 15, 15, 0, 1, 2, 3, 4, 5, 6, 7, 8, 9, 10, 11, 12, 13, 14, 15, 16]]) (.seq (.seq (.ops [⟨(some 49), none, (.v (.mv (.t 3)))⟩, ⟨(some 50), none, (.v (.len (.t 49)))⟩, ⟨(some 51), none, (.v (.mv (.c (.int .i64 0))))⟩]) (.block 0 (.loop (b15_0 b)))) (.seq (.seq (.ops [⟨(some 63), none, (.v (.load 5 true (.t 10)))⟩, ⟨(some 64), none, (.call (.c (.fn 42 [])) [(.t 63)])⟩, ⟨(some 13), none, (.v (.mv (.t 64)))⟩]) (.seq (.ops [⟨(some 65), none, (.v (.mv (.t 13)))⟩, ⟨(some 66), none, (.v (.bin .neq (.t 65) (.c (.int .i64 0))))⟩]) (.cond (.t 66) (.seq (.ops [⟨(some 67), none, (.v (.build [.cap0, .cap0, .cap0, .cap0, .cap0] []))⟩, ⟨(some 68), none, (.v (.mv (.t 13)))⟩, ⟨none, none, (.e (.store 5 (.t 8) (.t 67)))⟩, ⟨(some 9), none, (.v (.mv (.t 68)))⟩]) .ret) .skip))) (.seq (.ops [⟨(some 69), none, (.v (.load 5 true (.t 10)))⟩, ⟨none, none, (.e (.store 5 (.t 8) (.t 69)))⟩, ⟨(some 9), none, (.v (.mv (.c (.int .i64 0))))⟩]) .ret)))))))
def q15 : List AI := [(.load 5 true (.t 8)), (.mv (.t 9))]
theorem g15 (b : Nat) : Fn PP 15 4 (b15 b) q15 := Fn.ofB b (fn := Go.Proofs.Try.f15) (by kernel_rfl) (by kernel_rfl) (by kernel_rfl)
def b45 (b : Nat) : AC := (.seq (.ops [⟨(some 1), none, (.e (.box (b + 1) 0 (.t 0)))⟩, ⟨(some 2), none, (.e (.alloc (b + 2) [.cap0, .cap0, .cap0, .cap0, .cap0]))⟩]) (.seq (.any [⟨(some 3), none, (.v (.fld 0 (.t 1)))⟩, ⟨(some 4), none, (.v (.load 1 false (.t 3)))⟩, ⟨(some 5), none, (.call (.c (.fn 40 [])) [(.t 4)])⟩, ⟨(some 6), none, (.v (.fld 1 (.t 1)))⟩, ⟨(some 7), none, (.v (.load 1 false (.t 6)))⟩, ⟨(some 8), none, (.call (.c (.fn 40 [])) [(.t 7)])⟩, ⟨(some 9), none, (.v (.fld 2 (.t 1)))⟩, ⟨(some 10), none, (.v (.load 1 false (.t 9)))⟩, ⟨(some 11), none, (.call (.c (.fn 41 [])) [(.t 10)])⟩, ⟨(some 12), none, (.v (.fld 3 (.t 1)))⟩, ⟨(some 13), none, (.v (.load 1 false (.t 12)))⟩, ⟨(some 14), none, (.call (.c (.fn 82 [])) [(.t 13)])⟩, ⟨(some 15), none, (.v (.fld 4 (.t 1)))⟩, ⟨(some 16), none, (.v (.load 1 false (.t 15)))⟩, ⟨(some 17), none, (.call (.c (.fn 21 [])) [(.t 16)])⟩, ⟨(some 18), none, (.v (.build [.cap0, .cap0, .cap0, .cap0, .cap0] [(0, (1, (.t 5))), (1, (1, (.t 8))), (2, (1, (.t 11))), (3, (1, (.t 14))), (4, (1, (.t 17)))]))⟩, ⟨none, none, (.e (.store 5 (.t 2) (.t 18)))⟩] [[], [0], [1], [], [3], [4, 2], [], [6], [7, 5], [], [9], [10, 8], [], [12], [13, 11], [2, 5, 8, 11, 14], [15, 14, 0, 1, 2, 3, 4, 5, 6, 7, 8, 9, 10, 11, 12, 13, 14, 15]]) .ret))
def q45 : List AI := [(.load 5 true (.t 2))]
theorem g45 (b : Nat) : Fn PP 45 1 (b45 b) q45 := Fn.ofB b (fn := Go.Proofs.Try.f45) (by kernel_rfl) (by kernel_rfl) (by kernel_rfl)
theorem p41r (n : Nat) (f : Nat → AV) (hf : ∀ i, i < n → (f i).cells.length = 3 ∧ (f i).cells.all AV.isCell = true) (hn : n ≤ 1048576) : CallW PP 41 [.fs n f] mem0 fun r m => (r = .cap0 ∧ n = 0) ∨ ∃ id ver e sz n' g, r = .sl id ver n' ∧ m id = .row ver e sz n' g ∧ (n' = n ∧ e = 37 ∧ sz = 3 ∧ ∀ i, i < n → g i = f i) := by
  refine Fn.call fmix f41 ?_
  unfold a41 r41
  simp -implicitDefEqProofs only [vqa, Nat.reduceEqDiff, Nat.reduceAdd, reduceIte, Nat.reduceLeDiff, Nat.reduceBEq, Nat.reduceLT, Nat.reduceSub, Int.reduceLT, Int.reduceLE, Int.reduceEq, Int.reduceToNat, Nat.reduceMul, eq_self, implies_true, forall_const]
  refine ⟨?_, fun h => .inl h⟩
  exact ⟨⟨hf, by omega, by omega⟩, .inr ⟨_, _, _, _, _, _, rfl, if_pos rfl, rfl, rfl, rfl, fun i hi => rfl⟩⟩
theorem p45g (b : Nat) (mem : Mem) {N : Gra} {cs : List AV} (hN : GraC cs N) (ok : N.Ok) : CallW PP 45 [.agg cs] mem fun r m => ∃ a0 a1 rv a3 a4, r = .agg [.fs N.ni a0, .fs N.no a1, rv, .fs N.na a3, .fs N.nk a4] ∧ (∀ i, i < N.ni → a0 i = .str (N.inn i)) ∧ (∀ i, i < N.no → a1 i = .str (N.out i)) ∧ (∀ i, i < N.na → a3 i = .agg [.int .i64 (N.A i), .int .i64 (N.B i)]) ∧ (∀ i, i < N.nk → a4 i = .int .i64 (N.outs i)) ∧
    Acc (b + 101) 37 3 N.nr (fun k a => a = (N.reg k).av) rv m ∧ Keeps b mem m := by
  obtain ⟨f0, f1, f2, f3, f4, rfl, g0, g1, g2, g3, g4⟩ := hN
  have hni := ok.ni; have hno := ok.no; have hnr := ok.nr; have hna := ok.na; have hnk := ok.nk
  refine Fn.call fmix (g45 b) ?_
  unfold b45 q45
  simp -implicitDefEqProofs only [vqa, Nat.reduceEqDiff, Nat.reduceAdd, reduceIte, Nat.reduceLeDiff, Nat.reduceBEq, Nat.reduceLT, Nat.reduceSub, Int.reduceLT, Int.reduceLE, Int.reduceEq, Int.reduceToNat, Nat.reduceMul, eq_self, implies_true, forall_const]
  refine vAny [0, 1, 3, 4, 6, 7, 9, 10, 12, 13, 2, 5, 8, 11, 14, 15, 16] 17 (oneL (b + 1)) (by kernel_rfl) (by kernel_rfl) ?_
  simp -implicitDefEqProofs only [vqa, Nat.reduceEqDiff, Nat.reduceAdd, reduceIte, Nat.reduceLeDiff, Nat.reduceBEq, Nat.reduceLT, Nat.reduceSub, Int.reduceLT, Int.reduceLE, Int.reduceEq, Int.reduceToNat, Nat.reduceMul, eq_self, implies_true, forall_const]
  refine CallW.fz (p40z N.ni f0 (fun i hi => by rw [g0 i hi]; exact ⟨rfl, rfl⟩) hni) rfl rfl fun r ⟨a0, hr, h0⟩ => ⟨by subst hr; rfl, ?_⟩
  subst hr
  simp -implicitDefEqProofs only [vqa, Nat.reduceEqDiff, Nat.reduceAdd, reduceIte, Nat.reduceLeDiff, Nat.reduceBEq, Nat.reduceLT, Nat.reduceSub, Int.reduceLT, Int.reduceLE, Int.reduceEq, Int.reduceToNat, Nat.reduceMul, eq_self, implies_true, forall_const]
  refine CallW.fz (p40z N.no f1 (fun i hi => by rw [g1 i hi]; exact ⟨rfl, rfl⟩) hno) rfl rfl fun r ⟨a1, hr, h1⟩ => ⟨by subst hr; rfl, ?_⟩
  subst hr
  simp -implicitDefEqProofs only [vqa, Nat.reduceEqDiff, Nat.reduceAdd, reduceIte, Nat.reduceLeDiff, Nat.reduceBEq, Nat.reduceLT, Nat.reduceSub, Int.reduceLT, Int.reduceLE, Int.reduceEq, Int.reduceToNat, Nat.reduceMul, eq_self, implies_true, forall_const]
  have fin0 : ∀ i, i < N.ni → a0 i = .str (N.inn i) := fun i hi => by rw [h0 i hi, g0 i hi]
  have fin1 : ∀ i, i < N.no → a1 i = .str (N.out i) := fun i hi => by rw [h1 i hi, g1 i hi]
  have fin3 : ∀ a3 : Nat → AV, (∀ i, i < N.na → a3 i = f3 i) → ∀ i, i < N.na → a3 i = .agg [.int .i64 (N.A i), .int .i64 (N.B i)] := fun a3 h i hi => by rw [h i hi, g3 i hi]
  have fin4 : ∀ a4 : Nat → AV, (∀ i, i < N.nk → a4 i = f4 i) → ∀ i, i < N.nk → a4 i = .int .i64 (N.outs i) := fun a4 h i hi => by rw [h i hi, g4 i hi]
  refine CallW.own0 (b + 101) (p41r N.nr f2 (fun i hi => by rw [g2 i hi]; exact ⟨rfl, rfl⟩) hnr) rfl rfl (fun hz2 => ?_) (fun e sz n g ⟨e1, e2, e3, hg2⟩ => ?_)
  · simp -implicitDefEqProofs only [vqa, Nat.reduceEqDiff, Nat.reduceAdd, reduceIte, Nat.reduceLeDiff, Nat.reduceBEq, Nat.reduceLT, Nat.reduceSub, Int.reduceLT, Int.reduceLE, Int.reduceEq, Int.reduceToNat, Nat.reduceMul, eq_self, implies_true, forall_const]
    refine CallW.fz (p82z N.na f3 (fun i hi => by rw [g3 i hi]; exact ⟨rfl, rfl⟩) hna) rfl rfl fun r ⟨a3, hr, h3⟩ => ⟨by subst hr; rfl, ?_⟩
    subst hr
    simp -implicitDefEqProofs only [vqa, Nat.reduceEqDiff, Nat.reduceAdd, reduceIte, Nat.reduceLeDiff, Nat.reduceBEq, Nat.reduceLT, Nat.reduceSub, Int.reduceLT, Int.reduceLE, Int.reduceEq, Int.reduceToNat, Nat.reduceMul, eq_self, implies_true, forall_const]
    refine CallW.fz (p21z N.nk f4 (fun i hi => by rw [g4 i hi]; exact ⟨rfl, rfl⟩) hnk) rfl rfl fun r ⟨a4, hr, h4⟩ => ⟨by subst hr; rfl, ?_⟩
    subst hr
    simp -implicitDefEqProofs only [vqa, Nat.reduceEqDiff, Nat.reduceAdd, reduceIte, Nat.reduceLeDiff, Nat.reduceBEq, Nat.reduceLT, Nat.reduceSub, Int.reduceLT, Int.reduceLE, Int.reduceEq, Int.reduceToNat, Nat.reduceMul, eq_self, implies_true, forall_const]
    exact ⟨_, _, _, _, _, rfl, fin0, fin1, fin3 _ h3, fin4 _ h4, .inl ⟨hz2, rfl⟩⟩
  · subst e1; subst e2; subst e3
    simp -implicitDefEqProofs only [vqa, Nat.reduceEqDiff, Nat.reduceAdd, reduceIte, Nat.reduceLeDiff, Nat.reduceBEq, Nat.reduceLT, Nat.reduceSub, Int.reduceLT, Int.reduceLE, Int.reduceEq, Int.reduceToNat, Nat.reduceMul, eq_self, implies_true, forall_const]
    refine CallW.fz (p82z N.na f3 (fun i hi => by rw [g3 i hi]; exact ⟨rfl, rfl⟩) hna) rfl rfl fun r ⟨a3, hr, h3⟩ => ⟨by subst hr; rfl, ?_⟩
    subst hr
    simp -implicitDefEqProofs only [vqa, Nat.reduceEqDiff, Nat.reduceAdd, reduceIte, Nat.reduceLeDiff, Nat.reduceBEq, Nat.reduceLT, Nat.reduceSub, Int.reduceLT, Int.reduceLE, Int.reduceEq, Int.reduceToNat, Nat.reduceMul, eq_self, implies_true, forall_const]
    refine CallW.fz (p21z N.nk f4 (fun i hi => by rw [g4 i hi]; exact ⟨rfl, rfl⟩) hnk) rfl rfl fun r ⟨a4, hr, h4⟩ => ⟨by subst hr; rfl, ?_⟩
    subst hr
    simp -implicitDefEqProofs only [vqa, Nat.reduceEqDiff, Nat.reduceAdd, reduceIte, Nat.reduceLeDiff, Nat.reduceBEq, Nat.reduceLT, Nat.reduceSub, Int.reduceLT, Int.reduceLE, Int.reduceEq, Int.reduceToNat, Nat.reduceMul, eq_self, implies_true, forall_const]
    exact ⟨_, _, _, _, _, rfl, fin0, fin1, fin3 _ h3, fin4 _ h4, .inr ⟨_, g, rfl, by simp only [set_at, bEq]; rfl, fun i hi => by rw [hg2 i hi, g2 i hi]⟩⟩
/-- The graph that a maker gives, and its error. -/
def Mak.gra (M : Mak) (nin : Nat → ByteArray) (rg : Nat → RegV) (no : Nat) (out : Nat → ByteArray) (nk : Nat) (outs nx : Nat → Int) : Gra := ⟨M.ni, nin, no, out, M.nr, fun i => ⟨(rg i).name, nx i, (rg i).init⟩, M.n, M.A, M.B, nk, outs⟩
noncomputable def Mak.graF (M : Mak) (nn : Nat) (G : Gra) : Int := if M.bad ≠ 0 then M.bad else if nn ≠ M.nr then 4 else graphF G

set_option maxHeartbeats 2000000 in
theorem p15 (b : Nat) {mem : Mem} {o v : Nat} {fi fr : Nat → AV} {M : Mak} {S : Nat → Prop} (h : MkA mem o v fi fr M S) (ok : M.Ok) (hb : ∀ i, S i → i < b) {nin : Nat → ByteArray} {rg : Nat → RegV} (hfi : ∀ i, i < M.ni → fi i = .str (nin i)) (hfr : ∀ i, i < M.nr → fr i = (rg i).av)
    {no nk nn : Nat} {fo fk fn : Nat → AV} {out : Nat → ByteArray} {outs nx : Nat → Int} (hfo : ∀ i, i < no → fo i = .str (out i)) (hfk : ∀ i, i < nk → fk i = .int .i64 (outs i)) (hfn : ∀ i, i < nn → fn i = .int .i64 (nx i)) (gok : (M.gra nin rg no out nk outs (fun i => (rg i).next)).Ok) (hnx : ∀ i, i < nn → L64 (nx i)) (hnn : nn ≤ 1048576) :
    CallW PP 15 [.ptr o v 0, .fs no fo, .fs nk fk, .fs nn fn] mem fun r m => ((M.graF nn (M.gra nin rg no out nk outs nx) ≠ 0 ∧ r = .tup [.agg [.cap0, .cap0, .cap0, .cap0, .cap0], .int .i64 (M.graF nn (M.gra nin rg no out nk outs nx))]) ∨
      (M.graF nn (M.gra nin rg no out nk outs nx) = 0 ∧ ∃ a0 a1 rv a3 a4, r = .tup [.agg [.fs M.ni a0, .fs no a1, rv, .fs M.n a3, .fs nk a4], .int .i64 0] ∧ (∀ i, i < M.ni → a0 i = .str (nin i)) ∧ (∀ i, i < no → a1 i = .str (out i)) ∧ (∀ i, i < M.n → a3 i = .agg [.int .i64 (M.A i), .int .i64 (M.B i)]) ∧ (∀ i, i < nk → a4 i = .int .i64 (outs i)) ∧ Acc (b + 1101) 37 3 M.nr (fun k a => a = (⟨(rg k).name, nx k, (rg k).init⟩ : RegV).av) rv m)) ∧ Frame S b mem m := by
  obtain ⟨av, sid, sv, p, g, h1, h2, l1, l3, l5, hA, hp, hg⟩ := h
  have ho := hb o l1
  have n1 := ok.ni; have n2 := ok.nr; have n3 := ok.n
  refine Fn.call fmix (g15 b) ?_
  unfold b15 q15
  simp -implicitDefEqProofs only [vqa, Nat.reduceEqDiff, Nat.reduceAdd, reduceIte, Nat.reduceLeDiff, Nat.reduceBEq, Nat.reduceLT, Nat.reduceSub, Int.reduceLT, Int.reduceLE, Int.reduceEq, Int.reduceToNat, Nat.reduceMul, eq_self, implies_true, forall_const, h1, bNe ho, bNe' ho]
  have eb : ∀ {c : Int}, M.graF nn (M.gra nin rg no out nk outs nx) = c → c ≠ 0 → (M.graF nn (M.gra nin rg no out nk outs nx) ≠ 0 ∧ (AV.tup [.agg [.cap0, .cap0, .cap0, .cap0, .cap0], .int .i64 c]) = .tup [.agg [.cap0, .cap0, .cap0, .cap0, .cap0], .int .i64 (M.graF nn (M.gra nin rg no out nk outs nx))]) := fun e hc => ⟨by rw [e]; exact hc, by rw [e]⟩
  refine ⟨fun c1 => ?_, fun c1 => ⟨fun c2 => ?_, fun c2 => ?_⟩⟩
  · refine vAnyT [0, 1, 2, 3, 4] (.step 5 (.step 6 .leaf)) (fun m' => m' o = .var v [.fs M.ni fi, .fs M.nr fr, av, .mp sid sv, .int .i64 M.bad]) (by kernel_rfl) (by kernel_rfl) (by simp -implicitDefEqProofs only [vqa, Nat.reduceEqDiff, Nat.reduceAdd, reduceIte, Nat.reduceLeDiff, Nat.reduceBEq, Nat.reduceLT, Nat.reduceSub, Int.reduceLT, Int.reduceLE, Int.reduceEq, Int.reduceToNat, Nat.reduceMul, eq_self, implies_true, forall_const, h1, bNe ho, bNe' ho]) ?_
    simp -implicitDefEqProofs only [vqa, Nat.reduceEqDiff, Nat.reduceAdd, reduceIte, Nat.reduceLeDiff, Nat.reduceBEq, Nat.reduceLT, Nat.reduceSub, Int.reduceLT, Int.reduceLE, Int.reduceEq, Int.reduceToNat, Nat.reduceMul, eq_self, implies_true, forall_const, vqt, h1, bNe ho, bNe' ho]
    refine ⟨fun m' hm' => (by rw [hm']; exact ⟨_, rfl, rfl⟩), fun m' hm' => (by rw [hm']; exact ⟨_, rfl, rfl⟩), fun m' hm' => (by rw [hm']; exact ⟨_, rfl, rfl⟩), ?_⟩
    exact ⟨.inl (eb (by unfold Mak.graF; rw [if_pos c1]) c1), (by repeat (first | exact Frame.refl | refine Frame.set ?_ (.inl (by omega))))⟩
  · exact ⟨.inl (eb (by unfold Mak.graF; rw [if_neg c1, if_pos (by omega)]) (by decide)), (by repeat (first | exact Frame.refl | refine Frame.set ?_ (.inl (by omega))))⟩
  have enn : nn = M.nr := by omega
  subst enn
  have eF : M.graF M.nr (M.gra nin rg no out nk outs nx) = graphF (M.gra nin rg no out nk outs nx) := by unfold Mak.graF; rw [if_neg c1, if_neg (by simp)]
  generalize (mem (b + 8)).ver + 1 = V8
  refine seq_join (fun e m => e 3 = .fs M.nr fn ∧ e 8 = .ptr (b + 8) V8 0 ∧ m (b + 8) = .var V8 [.cap0, .cap0, .cap0, .cap0, .cap0] ∧ ∃ V10 a0 a1 rv a3 a4, e 10 = .ptr (b + 10) V10 0 ∧ m (b + 10) = .var V10 [.fs M.ni a0, .fs no a1, rv, .fs M.n a3, .fs nk a4] ∧ (∀ i, i < M.ni → a0 i = .str (nin i)) ∧ (∀ i, i < no → a1 i = .str (out i)) ∧ (∀ i, i < M.n → a3 i = .agg [.int .i64 (M.A i), .int .i64 (M.B i)]) ∧ (∀ i, i < nk → a4 i = .int .i64 (outs i)) ∧ Acc (b + 1101) 37 3 M.nr (fun k a => a = (rg k).av) rv m ∧ Frame S b mem m) ?_ ?_
  · rcases hA with ⟨hz, rfl⟩ | ⟨aid, V, f, rfl, e2, e3, e5, e6, e7⟩
    · have hG : GraC [.fs M.ni fi, .fs no fo, .fs M.nr fr, .fs 0 (fun _ => .undef), .fs nk fk] (M.gra nin rg no out nk outs (fun i => (rg i).next)) := by
        have : GraC [.fs M.ni fi, .fs no fo, .fs M.nr fr, .fs M.n (fun _ => .undef), .fs nk fk] (M.gra nin rg no out nk outs (fun i => (rg i).next)) := ⟨fi, fo, fr, _, fk, rfl, hfi, hfo, hfr, fun i hi => absurd hi (by show ¬ i < M.n; omega), hfk⟩
        rw [hz] at this; exact this
      refine vAnyT [0, 1, 2, 3, 4, 5, 6, 7, 8, 9, 10, 11, 12, 13, 14] (.fork (.step 15 (.step 16 (.step 17 .leaf))) (.step 16 (.step 15 (.step 17 .leaf)))) (fun m' => m' o = .var v [.fs M.ni fi, .fs M.nr fr, .cap0, .mp sid sv, .int .i64 M.bad]) (by kernel_rfl) (by kernel_rfl) (by simp -implicitDefEqProofs only [vqa, Nat.reduceEqDiff, Nat.reduceAdd, reduceIte, Nat.reduceLeDiff, Nat.reduceBEq, Nat.reduceLT, Nat.reduceSub, Int.reduceLT, Int.reduceLE, Int.reduceEq, Int.reduceToNat, Nat.reduceMul, eq_self, implies_true, forall_const, h1, bNe ho, bNe' ho]) ?_
      simp -implicitDefEqProofs only [vqa, Nat.reduceEqDiff, Nat.reduceAdd, reduceIte, Nat.reduceLeDiff, Nat.reduceBEq, Nat.reduceLT, Nat.reduceSub, Int.reduceLT, Int.reduceLE, Int.reduceEq, Int.reduceToNat, Nat.reduceMul, eq_self, implies_true, forall_const, vqt, h1, bNe ho, bNe' ho]
      refine ⟨fun m' hm' => (by rw [hm']; exact ⟨_, rfl, rfl⟩), fun m' hm' => (by rw [hm']; exact ⟨_, rfl, rfl⟩), fun m' hm' => (by rw [hm']; exact ⟨_, rfl, rfl⟩), fun m' hm' => (by rw [hm']; exact ⟨_, rfl, rfl⟩), fun m' hm' => (by rw [hm']; exact ⟨_, rfl, rfl⟩), fun m' hm' => (by rw [hm']; exact ⟨_, rfl, rfl⟩), fun m' hm' => (by rw [hm']; exact ⟨_, rfl, rfl⟩), fun m' hm' => (by rw [hm']; exact ⟨_, rfl, rfl⟩), fun m' hm' => (by rw [hm']; exact ⟨_, rfl, rfl⟩), ?_, ?_⟩
      · refine CallW.frzW (by simp -implicitDefEqProofs only [vqa, Nat.reduceEqDiff, Nat.reduceAdd, reduceIte, Nat.reduceLeDiff, Nat.reduceBEq, Nat.reduceLT, Nat.reduceSub, Int.reduceLT, Int.reduceLE, Int.reduceEq, Int.reduceToNat, Nat.reduceMul, eq_self, implies_true, forall_const]; rfl) (by simp only [and_self]) ?_
        refine CallW.mono (p45g (b + 1000) _ hG gok) fun r m2 ⟨a0, a1, rv, a3, a4, hr, q0, q1, q3, q4, hR, hK⟩ => ?_
        subst hr
        have hR' : Acc (b + 1101) 37 3 M.nr (fun k a => a = (rg k).av) rv m2 := hR
        have hmo := hK o (by omega)
        have hm8 := hK (b + 8) (by omega)
        have hm10 := hK (b + 10) (by omega)
        simp -implicitDefEqProofs only [vqa, Nat.reduceEqDiff, Nat.reduceAdd, reduceIte, Nat.reduceLeDiff, Nat.reduceBEq, Nat.reduceLT, Nat.reduceSub, Int.reduceLT, Int.reduceLE, Int.reduceEq, Int.reduceToNat, Nat.reduceMul, eq_self, implies_true, forall_const, h1, bNe ho, bNe' ho] at hmo hm8 hm10
        obtain ⟨t1, t2, t3⟩ : rv.okv = true ∧ rv.cells = [rv] ∧ rv.isCell = true := by rcases hR with ⟨_, rfl⟩ | ⟨_, _, rfl, _, _⟩ <;> exact ⟨rfl, rfl, rfl⟩
        simp -implicitDefEqProofs only [vqa, Nat.reduceEqDiff, Nat.reduceAdd, reduceIte, Nat.reduceLeDiff, Nat.reduceBEq, Nat.reduceLT, Nat.reduceSub, Int.reduceLT, Int.reduceLE, Int.reduceEq, Int.reduceToNat, Nat.reduceMul, eq_self, implies_true, forall_const, vqt, hmo, hm8, hm10, bNe ho, bNe' ho, t1, t2, t3]
        have hFr2 : Frame S b mem m2 := fun i hi hs => (hK i (by omega)).trans ((show Frame S b mem _ by repeat (first | exact Frame.refl | refine Frame.set ?_ (by exact .inl (by omega)))) i hi hs)
        exact ⟨_, a0, a1, rv, a3, a4, rfl, rfl, q0, q1, q3, q4, hR'.keep (by simp -implicitDefEqProofs only [vqa, Nat.reduceEqDiff, Nat.reduceAdd, reduceIte, Nat.reduceLeDiff, Nat.reduceBEq, Nat.reduceLT, Nat.reduceSub, Int.reduceLT, Int.reduceLE, Int.reduceEq, Int.reduceToNat, Nat.reduceMul, eq_self, implies_true, forall_const]), (by repeat (first | exact hFr2 | refine Frame.set ?_ (.inl (by omega))))⟩
      · refine CallW.frzW (by simp -implicitDefEqProofs only [vqa, Nat.reduceEqDiff, Nat.reduceAdd, reduceIte, Nat.reduceLeDiff, Nat.reduceBEq, Nat.reduceLT, Nat.reduceSub, Int.reduceLT, Int.reduceLE, Int.reduceEq, Int.reduceToNat, Nat.reduceMul, eq_self, implies_true, forall_const]; rfl) (by simp only [and_self]) ?_
        refine CallW.mono (p45g (b + 1000) _ hG gok) fun r m2 ⟨a0, a1, rv, a3, a4, hr, q0, q1, q3, q4, hR, hK⟩ => ?_
        subst hr
        have hR' : Acc (b + 1101) 37 3 M.nr (fun k a => a = (rg k).av) rv m2 := hR
        have hmo := hK o (by omega)
        have hm8 := hK (b + 8) (by omega)
        have hm10 := hK (b + 10) (by omega)
        simp -implicitDefEqProofs only [vqa, Nat.reduceEqDiff, Nat.reduceAdd, reduceIte, Nat.reduceLeDiff, Nat.reduceBEq, Nat.reduceLT, Nat.reduceSub, Int.reduceLT, Int.reduceLE, Int.reduceEq, Int.reduceToNat, Nat.reduceMul, eq_self, implies_true, forall_const, h1, bNe ho, bNe' ho] at hmo hm8 hm10
        obtain ⟨t1, t2, t3⟩ : rv.okv = true ∧ rv.cells = [rv] ∧ rv.isCell = true := by rcases hR with ⟨_, rfl⟩ | ⟨_, _, rfl, _, _⟩ <;> exact ⟨rfl, rfl, rfl⟩
        simp -implicitDefEqProofs only [vqa, Nat.reduceEqDiff, Nat.reduceAdd, reduceIte, Nat.reduceLeDiff, Nat.reduceBEq, Nat.reduceLT, Nat.reduceSub, Int.reduceLT, Int.reduceLE, Int.reduceEq, Int.reduceToNat, Nat.reduceMul, eq_self, implies_true, forall_const, vqt, hmo, hm8, hm10, bNe ho, bNe' ho, t1, t2, t3]
        have hFr2 : Frame S b mem m2 := fun i hi hs => (hK i (by omega)).trans ((show Frame S b mem _ by repeat (first | exact Frame.refl | refine Frame.set ?_ (by exact .inl (by omega)))) i hi hs)
        exact ⟨_, a0, a1, rv, a3, a4, rfl, rfl, q0, q1, q3, q4, hR'.keep (by simp -implicitDefEqProofs only [vqa, Nat.reduceEqDiff, Nat.reduceAdd, reduceIte, Nat.reduceLeDiff, Nat.reduceBEq, Nat.reduceLT, Nat.reduceSub, Int.reduceLT, Int.reduceLE, Int.reduceEq, Int.reduceToNat, Nat.reduceMul, eq_self, implies_true, forall_const]), (by repeat (first | exact hFr2 | refine Frame.set ?_ (.inl (by omega))))⟩
    · have hG : GraC [.fs M.ni fi, .fs no fo, .fs M.nr fr, .fs M.n f, .fs nk fk] (M.gra nin rg no out nk outs (fun i => (rg i).next)) := ⟨fi, fo, fr, f, fk, rfl, hfi, hfo, hfr, e7, hfk⟩
      have oa : (o = aid) = False := eq_false (Ne.symm e5)
      have ao : (aid = o) = False := eq_false e5
      refine vAnyT [0, 1, 2, 3, 4, 5, 6, 7, 8, 9, 10, 11, 12, 13, 14] (.fork (.step 15 (.step 16 (.step 17 .leaf))) (.step 16 (.step 15 (.step 17 .leaf)))) (fun m' => m' o = .var v [.fs M.ni fi, .fs M.nr fr, .sl aid V M.n, .mp sid sv, .int .i64 M.bad]) (by kernel_rfl) (by kernel_rfl) (by simp -implicitDefEqProofs only [vqa, Nat.reduceEqDiff, Nat.reduceAdd, reduceIte, Nat.reduceLeDiff, Nat.reduceBEq, Nat.reduceLT, Nat.reduceSub, Int.reduceLT, Int.reduceLE, Int.reduceEq, Int.reduceToNat, Nat.reduceMul, eq_self, implies_true, forall_const, h1, bNe ho, bNe' ho]) ?_
      simp -implicitDefEqProofs only [vqa, Nat.reduceEqDiff, Nat.reduceAdd, reduceIte, Nat.reduceLeDiff, Nat.reduceBEq, Nat.reduceLT, Nat.reduceSub, Int.reduceLT, Int.reduceLE, Int.reduceEq, Int.reduceToNat, Nat.reduceMul, eq_self, implies_true, forall_const, vqt, h1, bNe ho, bNe' ho]
      refine ⟨fun m' hm' => (by rw [hm']; exact ⟨_, rfl, rfl⟩), fun m' hm' => (by rw [hm']; exact ⟨_, rfl, rfl⟩), fun m' hm' => (by rw [hm']; exact ⟨_, rfl, rfl⟩), fun m' hm' => (by rw [hm']; exact ⟨_, rfl, rfl⟩), fun m' hm' => (by rw [hm']; exact ⟨_, rfl, rfl⟩), fun m' hm' => (by rw [hm']; exact ⟨_, rfl, rfl⟩), fun m' hm' => (by rw [hm']; exact ⟨_, rfl, rfl⟩), fun m' hm' => (by rw [hm']; exact ⟨_, rfl, rfl⟩), fun m' hm' => (by rw [hm']; exact ⟨_, rfl, rfl⟩), ?_, ?_⟩
      · refine CallW.frzW (by simp -implicitDefEqProofs only [vqa, Nat.reduceEqDiff, Nat.reduceAdd, reduceIte, Nat.reduceLeDiff, Nat.reduceBEq, Nat.reduceLT, Nat.reduceSub, Int.reduceLT, Int.reduceLE, Int.reduceEq, Int.reduceToNat, Nat.reduceMul, eq_self, implies_true, forall_const, e2, bNe (hb aid e3), bNe' (hb aid e3)]; rfl) (by simp only [and_self]) ?_
        refine CallW.mono (p45g (b + 1000) _ hG gok) fun r m2 ⟨a0, a1, rv, a3, a4, hr, q0, q1, q3, q4, hR, hK⟩ => ?_
        subst hr
        have hR' : Acc (b + 1101) 37 3 M.nr (fun k a => a = (rg k).av) rv m2 := hR
        have hmo := hK o (by omega)
        have hm8 := hK (b + 8) (by omega)
        have hm10 := hK (b + 10) (by omega)
        simp -implicitDefEqProofs only [vqa, Nat.reduceEqDiff, Nat.reduceAdd, reduceIte, Nat.reduceLeDiff, Nat.reduceBEq, Nat.reduceLT, Nat.reduceSub, Int.reduceLT, Int.reduceLE, Int.reduceEq, Int.reduceToNat, Nat.reduceMul, eq_self, implies_true, forall_const, h1, bNe ho, bNe' ho, bNe (hb aid e3), bNe' (hb aid e3), oa, ao] at hmo hm8 hm10
        obtain ⟨t1, t2, t3⟩ : rv.okv = true ∧ rv.cells = [rv] ∧ rv.isCell = true := by rcases hR with ⟨_, rfl⟩ | ⟨_, _, rfl, _, _⟩ <;> exact ⟨rfl, rfl, rfl⟩
        simp -implicitDefEqProofs only [vqa, Nat.reduceEqDiff, Nat.reduceAdd, reduceIte, Nat.reduceLeDiff, Nat.reduceBEq, Nat.reduceLT, Nat.reduceSub, Int.reduceLT, Int.reduceLE, Int.reduceEq, Int.reduceToNat, Nat.reduceMul, eq_self, implies_true, forall_const, vqt, hmo, hm8, hm10, bNe ho, bNe' ho, t1, t2, t3]
        have hFr2 : Frame S b mem m2 := fun i hi hs => (hK i (by omega)).trans ((show Frame S b mem _ by repeat (first | exact Frame.refl | refine Frame.set ?_ (by first | exact .inl (by omega) | exact .inr e3))) i hi hs)
        exact ⟨_, a0, a1, rv, a3, a4, rfl, rfl, q0, q1, q3, q4, hR'.keep (by simp -implicitDefEqProofs only [vqa, Nat.reduceEqDiff, Nat.reduceAdd, reduceIte, Nat.reduceLeDiff, Nat.reduceBEq, Nat.reduceLT, Nat.reduceSub, Int.reduceLT, Int.reduceLE, Int.reduceEq, Int.reduceToNat, Nat.reduceMul, eq_self, implies_true, forall_const]), (by repeat (first | exact hFr2 | refine Frame.set ?_ (.inl (by omega))))⟩
      · refine CallW.frzW (by simp -implicitDefEqProofs only [vqa, Nat.reduceEqDiff, Nat.reduceAdd, reduceIte, Nat.reduceLeDiff, Nat.reduceBEq, Nat.reduceLT, Nat.reduceSub, Int.reduceLT, Int.reduceLE, Int.reduceEq, Int.reduceToNat, Nat.reduceMul, eq_self, implies_true, forall_const, e2, bNe (hb aid e3), bNe' (hb aid e3)]; rfl) (by simp only [and_self]) ?_
        refine CallW.mono (p45g (b + 1000) _ hG gok) fun r m2 ⟨a0, a1, rv, a3, a4, hr, q0, q1, q3, q4, hR, hK⟩ => ?_
        subst hr
        have hR' : Acc (b + 1101) 37 3 M.nr (fun k a => a = (rg k).av) rv m2 := hR
        have hmo := hK o (by omega)
        have hm8 := hK (b + 8) (by omega)
        have hm10 := hK (b + 10) (by omega)
        simp -implicitDefEqProofs only [vqa, Nat.reduceEqDiff, Nat.reduceAdd, reduceIte, Nat.reduceLeDiff, Nat.reduceBEq, Nat.reduceLT, Nat.reduceSub, Int.reduceLT, Int.reduceLE, Int.reduceEq, Int.reduceToNat, Nat.reduceMul, eq_self, implies_true, forall_const, h1, bNe ho, bNe' ho, bNe (hb aid e3), bNe' (hb aid e3), oa, ao] at hmo hm8 hm10
        obtain ⟨t1, t2, t3⟩ : rv.okv = true ∧ rv.cells = [rv] ∧ rv.isCell = true := by rcases hR with ⟨_, rfl⟩ | ⟨_, _, rfl, _, _⟩ <;> exact ⟨rfl, rfl, rfl⟩
        simp -implicitDefEqProofs only [vqa, Nat.reduceEqDiff, Nat.reduceAdd, reduceIte, Nat.reduceLeDiff, Nat.reduceBEq, Nat.reduceLT, Nat.reduceSub, Int.reduceLT, Int.reduceLE, Int.reduceEq, Int.reduceToNat, Nat.reduceMul, eq_self, implies_true, forall_const, vqt, hmo, hm8, hm10, bNe ho, bNe' ho, t1, t2, t3]
        have hFr2 : Frame S b mem m2 := fun i hi hs => (hK i (by omega)).trans ((show Frame S b mem _ by repeat (first | exact Frame.refl | refine Frame.set ?_ (by first | exact .inl (by omega) | exact .inr e3))) i hi hs)
        exact ⟨_, a0, a1, rv, a3, a4, rfl, rfl, q0, q1, q3, q4, hR'.keep (by simp -implicitDefEqProofs only [vqa, Nat.reduceEqDiff, Nat.reduceAdd, reduceIte, Nat.reduceLeDiff, Nat.reduceBEq, Nat.reduceLT, Nat.reduceSub, Int.reduceLT, Int.reduceLE, Int.reduceEq, Int.reduceToNat, Nat.reduceMul, eq_self, implies_true, forall_const]), (by repeat (first | exact hFr2 | refine Frame.set ?_ (.inl (by omega))))⟩
  · rintro e m ⟨e3, e8, m8, V10, a0, a1, rv, a3, a4, e10, m10, q0, q1, q3, q4, hR, hFr⟩
    simp -implicitDefEqProofs only [vqa, Nat.reduceEqDiff, Nat.reduceAdd, reduceIte, Nat.reduceLeDiff, Nat.reduceBEq, Nat.reduceLT, Nat.reduceSub, Int.reduceLT, Int.reduceLE, Int.reduceEq, Int.reduceToNat, Nat.reduceMul, eq_self, implies_true, forall_const, e3, e8, m8, e10, m10]
    have hR0 : Acc (b + 1101) 37 3 M.nr (fun k a => a = .agg [.str (rg k).name, .int .i64 (if k < 0 then nx k else (rg k).next), .bool (rg k).init]) rv m := by
      rcases hR with h | ⟨ver, gg, h1, h2, h3⟩
      · exact .inl h
      · exact .inr ⟨ver, gg, h1, h2, fun k hk => by have := h3 k hk; simp only [Nat.not_lt_zero, if_false]; exact this⟩
    refine vFor M.nr (fun i e m => e 8 = .ptr (b + 8) V8 0 ∧ m (b + 8) = .var V8 [.cap0, .cap0, .cap0, .cap0, .cap0] ∧ e 10 = .ptr (b + 10) V10 0 ∧ m (b + 10) = .var V10 [.fs M.ni a0, .fs no a1, rv, .fs M.n a3, .fs nk a4] ∧ e 49 = .fs M.nr fn ∧ e 50 = .int .i64 M.nr ∧ e 51 = .int .i64 i ∧ Acc (b + 1101) 37 3 M.nr (fun k a => a = .agg [.str (rg k).name, .int .i64 (if k < i then nx k else (rg k).next), .bool (rg k).init]) rv m ∧ Frame S b mem m) ?_ ?_ ?_
    · simp -implicitDefEqProofs only [vqa, Nat.reduceEqDiff, Nat.reduceAdd, reduceIte, Nat.reduceLeDiff, Nat.reduceBEq, Nat.reduceLT, Nat.reduceSub, Int.reduceLT, Int.reduceLE, Int.reduceEq, Int.reduceToNat, Nat.reduceMul, eq_self, implies_true, forall_const, e8, m8, e10, m10]
      exact ⟨hR0, hFr⟩
    · clear hR0 hR hFr e3 e8 m8 e10 m10 e m
      rintro i e m hi hi' ⟨e8, m8, e10, m10, e49, e50, e51, hR, hFr⟩
      rcases hR with ⟨hz, hv⟩ | ⟨ver, gg, rfl, hm, hgg⟩
      · omega
      have hgi := hgg i hi
      simp only [Nat.lt_irrefl, if_false] at hgi
      unfold b15_0
      simp -implicitDefEqProofs only [vqa, Nat.reduceEqDiff, Nat.reduceAdd, reduceIte, Nat.reduceLeDiff, Nat.reduceBEq, Nat.reduceLT, Nat.reduceSub, Int.reduceLT, Int.reduceLE, Int.reduceEq, Int.reduceToNat, Nat.reduceMul, eq_self, implies_true, forall_const, e8, m8, e10, m10, e49, e50, e51, hi', hfn i hi, hm, hgi]
      refine ⟨by omega, by omega, by omega, hi, wI (by omega) (by omega), .inr ⟨_, _, rfl, set_same _ _ _, fun k hk => ?_⟩, hFr.set (.inl (by omega))⟩
      show _ = AV.agg [.str (rg k).name, .int .i64 (if k < i + 1 then nx k else (rg k).next), .bool (rg k).init]
      by_cases e : k = i
      · subst e
        simp only [decide_true, cond_true]
        rw [if_pos (by omega)]
      · simp only [e, decide_false, cond_false]
        rw [hgg k hk]
        by_cases h : k < i
        · rw [if_pos h, if_pos (by omega)]
        · rw [if_neg h, if_neg (by omega)]
    · clear hR0 hR hFr e3 e8 m8 e10 m10 e m
      rintro e m ⟨e8, m8, e10, m10, e49, e50, e51, hR, hFr⟩
      unfold b15_0
      have gok' : (M.gra nin rg no out nk outs nx).Ok := ⟨gok.ni, gok.no, gok.nr, gok.na, gok.nk, gok.inn, gok.out, fun i hi => ⟨(gok.reg i hi).1, hnx i hi⟩, gok.A, gok.B, gok.outs⟩
      have hD : ∀ gg : Nat → AV, (∀ k, k < M.nr → gg k = .agg [.str (rg k).name, .int .i64 (nx k), .bool (rg k).init]) → GraC [.fs M.ni a0, .fs no a1, .fs M.nr gg, .fs M.n a3, .fs nk a4] (M.gra nin rg no out nk outs nx) := fun gg hgg => ⟨a0, a1, gg, a3, a4, rfl, q0, q1, hgg, q3, q4⟩
      have hR' : Acc (b + 1101) 37 3 M.nr (fun k a => a = (⟨(rg k).name, nx k, (rg k).init⟩ : RegV).av) rv m := by
        rcases hR with h | ⟨ver, gg, h1, h2, h3⟩
        · exact .inl h
        · exact .inr ⟨ver, gg, h1, h2, fun k hk => by have := h3 k hk; simp only [hk, if_true] at this; exact this⟩
      simp -implicitDefEqProofs only [vqa, Nat.reduceEqDiff, Nat.reduceAdd, reduceIte, Nat.reduceLeDiff, Nat.reduceBEq, Nat.reduceLT, Nat.reduceSub, Int.reduceLT, Int.reduceLE, Int.reduceEq, Int.reduceToNat, Nat.reduceMul, eq_self, implies_true, forall_const, e8, m8, e10, m10, e49, e50, e51]
      rcases hR' with ⟨hz, rfl⟩ | ⟨ver, gg, rfl, hm, hgg⟩
      · have hD0 := hD (fun _ => .undef) (fun k hk => absurd hk (by omega))
        rw [hz] at hD0
        refine CallW.sc (p42 hD0 gok') ?_ ?_ fun r hr => ⟨by subst hr; rfl, ?_⟩
        · simp only [rsC, rs2, rs1, rs0, vqa, Nat.reduceEqDiff, Nat.reduceAdd, reduceIte, Nat.reduceLeDiff, Nat.reduceBEq, Nat.reduceLT, Nat.reduceSub, Int.reduceLT, Int.reduceLE, Int.reduceEq, Int.reduceToNat, Nat.reduceMul, eq_self, implies_true, forall_const]
        · simp only [rsC, rs2, rs1, rs0, vqa, Nat.reduceEqDiff, Nat.reduceAdd, reduceIte, Nat.reduceLeDiff, Nat.reduceBEq, Nat.reduceLT, Nat.reduceSub, Int.reduceLT, Int.reduceLE, Int.reduceEq, Int.reduceToNat, Nat.reduceMul, eq_self, implies_true, forall_const]
        subst hr
        simp -implicitDefEqProofs only [vqa, Nat.reduceEqDiff, Nat.reduceAdd, reduceIte, Nat.reduceLeDiff, Nat.reduceBEq, Nat.reduceLT, Nat.reduceSub, Int.reduceLT, Int.reduceLE, Int.reduceEq, Int.reduceToNat, Nat.reduceMul, eq_self, implies_true, forall_const, e8, m8, e10, m10]
        refine ⟨fun k3 => ⟨.inl (eb eF k3), (by repeat (first | exact hFr | refine Frame.set ?_ (.inl (by omega))))⟩, fun k3 => ⟨.inr ⟨by rw [eF]; exact Classical.not_not.1 k3, a0, a1, _, a3, a4, rfl, q0, q1, q3, q4, .inl ⟨hz, rfl⟩⟩, (by repeat (first | exact hFr | refine Frame.set ?_ (.inl (by omega))))⟩⟩
      · refine CallW.sc (p42 (hD gg hgg) gok') ?_ ?_ fun r hr => ⟨by subst hr; rfl, ?_⟩
        · simp only [rsC, rs2, rs1, rs0, vqa, Nat.reduceEqDiff, Nat.reduceAdd, reduceIte, Nat.reduceLeDiff, Nat.reduceBEq, Nat.reduceLT, Nat.reduceSub, Int.reduceLT, Int.reduceLE, Int.reduceEq, Int.reduceToNat, Nat.reduceMul, eq_self, implies_true, forall_const, hm]
        · simp only [rsC, rs2, rs1, rs0, vqa, Nat.reduceEqDiff, Nat.reduceAdd, reduceIte, Nat.reduceLeDiff, Nat.reduceBEq, Nat.reduceLT, Nat.reduceSub, Int.reduceLT, Int.reduceLE, Int.reduceEq, Int.reduceToNat, Nat.reduceMul, eq_self, implies_true, forall_const, hm]
        subst hr
        simp -implicitDefEqProofs only [vqa, Nat.reduceEqDiff, Nat.reduceAdd, reduceIte, Nat.reduceLeDiff, Nat.reduceBEq, Nat.reduceLT, Nat.reduceSub, Int.reduceLT, Int.reduceLE, Int.reduceEq, Int.reduceToNat, Nat.reduceMul, eq_self, implies_true, forall_const, e8, m8, e10, m10]
        refine ⟨fun k3 => ⟨.inl (eb eF k3), (by repeat (first | exact hFr | refine Frame.set ?_ (.inl (by omega))))⟩, fun k3 => ⟨.inr ⟨by rw [eF]; exact Classical.not_not.1 k3, a0, a1, _, a3, a4, rfl, q0, q1, q3, q4, .inr ⟨ver, gg, rfl, ?_, hgg⟩⟩, (by repeat (first | exact hFr | refine Frame.set ?_ (.inl (by omega))))⟩⟩
        simp -implicitDefEqProofs only [vqa, Nat.reduceEqDiff, Nat.reduceAdd, reduceIte, Nat.reduceLeDiff, Nat.reduceBEq, Nat.reduceLT, Nat.reduceSub, Int.reduceLT, Int.reduceLE, Int.reduceEq, Int.reduceToNat, Nat.reduceMul, eq_self, implies_true, forall_const, hm]
end Go.Ab
