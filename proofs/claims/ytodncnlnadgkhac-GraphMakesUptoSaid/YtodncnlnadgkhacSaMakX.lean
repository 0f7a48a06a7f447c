/- Walks: And, Xor and In of the maker. -/
import Derived.Test.YtodncnlnadgkhacSaMaker
set_option linter.unusedSimpArgs false
set_option linter.unusedVariables false
namespace Go.Ab
open Go
def b26 (b : Nat) : AC := (.seq (.ops [⟨(some 6), none, (.v (.mv (.c (.int .i64 0))))⟩]) (.seq (.seq (.ops [⟨(some 9), none, (.v (.mv (.t 0)))⟩, ⟨(some 10), none, (.v (.mv (.t 1)))⟩, ⟨(some 11), none, (.v (.mv (.t 2)))⟩, ⟨(some 12), none, (.e (.lit (b + 12) 35 1 2 [(.int .i64 0)] [(0, (.t 10)), (1, (.t 11))]))⟩, ⟨(some 13), none, (.call (.c (.fn 54 [])) [(.t 9), (.t 12)])⟩, ⟨(some 14), none, (.v (.not (.t 13)))⟩]) (.cond (.t 14) (.seq (.ops [⟨(some 6), none, (.v (.mv (.c (.int .i64 0))))⟩]) .ret) .skip)) (.seq (.ops [⟨(some 16), none, (.v (.mv (.t 0)))⟩, ⟨(some 17), none, (.v (.mv (.t 1)))⟩, ⟨(some 18), none, (.v (.mv (.t 2)))⟩, ⟨(some 19), none, (.call (.c (.fn 44 [])) [(.t 18)])⟩, ⟨(some 20), none, (.v (.mv (.t 1)))⟩, ⟨(some 21), none, (.call (.c (.fn 44 [])) [(.t 20)])⟩, ⟨(some 22), none, (.v (.mv (.t 2)))⟩, ⟨(some 23), none, (.call (.c (.fn 56 [])) [(.t 16), (.t 17), (.t 19), (.t 21), (.t 22)])⟩, ⟨(some 15), none, (.v (.mv (.t 23)))⟩, ⟨(some 24), none, (.v (.ext 0 (.t 15)))⟩, ⟨(some 25), none, (.v (.ext 1 (.t 15)))⟩, ⟨(some 7), none, (.v (.mv (.t 24)))⟩, ⟨(some 8), none, (.v (.mv (.t 25)))⟩]) (.seq (.ops [⟨(some 26), none, (.v (.mv (.t 7)))⟩, ⟨(some 6), none, (.v (.mv (.t 26)))⟩]) .ret))))
def q26 : List AI := [(.mv (.t 6))]
theorem g26 (b : Nat) : Fn PP 26 3 (b26 b) q26 := Fn.ofB b (fn := Go.Proofs.Try.f26) (by kernel_rfl) (by kernel_rfl) (by kernel_rfl)
def a11 : AC := (.seq (.ops [⟨(some 4), none, (.v (.mv (.c (.int .i64 0))))⟩]) (.seq (.seq (.ops [⟨(some 5), none, (.v (.mv (.t 1)))⟩, ⟨(some 6), none, (.v (.bin .lss (.t 5) (.c (.int .i64 0))))⟩, ⟨(some 7), none, (.v (.mv (.t 6)))⟩, ⟨(some 8), (some (7, false)), (.v (.mv (.t 1)))⟩, ⟨(some 9), (some (7, false)), (.v (.mv (.t 0)))⟩, ⟨(some 10), (some (7, false)), (.v (.nilck (.t 9)))⟩, ⟨(some 11), (some (7, false)), (.v (.fld 0 (.t 10)))⟩, ⟨(some 12), (some (7, false)), (.v (.load 1 false (.t 11)))⟩, ⟨(some 13), (some (7, false)), (.v (.len (.t 12)))⟩, ⟨(some 14), (some (7, false)), (.v (.bin .geq (.t 8) (.t 13)))⟩, ⟨(some 15), none, (.v (.pick (.t 7) (.c (.bool true)) (.t 14)))⟩]) (.cond (.t 15) (.seq (.ops [⟨(some 16), none, (.v (.mv (.t 0)))⟩, ⟨(some 17), none, (.call (.c (.fn 43 [])) [(.t 16), (.c (.int .i64 2))])⟩, ⟨(some 4), none, (.v (.mv (.t 17)))⟩]) .ret) .skip)) (.seq (.ops [⟨(some 18), none, (.v (.mv (.t 1)))⟩, ⟨(some 19), none, (.v (.bin .add (.c (.int .i64 1)) (.t 18)))⟩, ⟨(some 20), none, (.v (.bin .mul (.c (.int .i64 2)) (.t 19)))⟩, ⟨(some 4), none, (.v (.mv (.t 20)))⟩]) .ret)))
def r11 : List AI := [(.mv (.t 4))]
theorem f11 : Fn PP 11 2 a11 r11 := Fn.of (fn := Go.Proofs.Try.f11) (by kernel_rfl) (by kernel_rfl) (by kernel_rfl)
def b24 (b : Nat) : AC := (.seq (.ops [⟨(some 6), none, (.v (.mv (.c (.int .i64 0))))⟩]) (.seq (.seq (.ops [⟨(some 9), none, (.v (.mv (.t 0)))⟩, ⟨(some 10), none, (.v (.mv (.t 1)))⟩, ⟨(some 11), none, (.v (.mv (.t 2)))⟩, ⟨(some 12), none, (.e (.lit (b + 12) 35 1 2 [(.int .i64 0)] [(0, (.t 10)), (1, (.t 11))]))⟩, ⟨(some 13), none, (.call (.c (.fn 54 [])) [(.t 9), (.t 12)])⟩, ⟨(some 14), none, (.v (.not (.t 13)))⟩]) (.cond (.t 14) (.seq (.ops [⟨(some 6), none, (.v (.mv (.c (.int .i64 0))))⟩]) .ret) .skip)) (.seq (.ops [⟨(some 16), none, (.v (.mv (.t 0)))⟩, ⟨(some 17), none, (.v (.mv (.t 1)))⟩, ⟨(some 18), none, (.v (.mv (.t 2)))⟩, ⟨(some 19), none, (.call (.c (.fn 55 [])) [(.t 16), (.t 17), (.t 18)])⟩, ⟨(some 15), none, (.v (.mv (.t 19)))⟩, ⟨(some 20), none, (.v (.ext 0 (.t 15)))⟩, ⟨(some 21), none, (.v (.ext 1 (.t 15)))⟩, ⟨(some 7), none, (.v (.mv (.t 20)))⟩, ⟨(some 8), none, (.v (.mv (.t 21)))⟩]) (.seq (.ops [⟨(some 22), none, (.v (.mv (.t 7)))⟩, ⟨(some 6), none, (.v (.mv (.t 22)))⟩]) .ret))))
def q24 : List AI := [(.mv (.t 6))]
theorem g24 (b : Nat) : Fn PP 24 3 (b24 b) q24 := Fn.ofB b (fn := Go.Proofs.Try.f24) (by kernel_rfl) (by kernel_rfl) (by kernel_rfl)
theorem p26 (b : Nat) {mem : Mem} {o v : Nat} {fi fr : Nat → AV} {M : Mak} {S : Nat → Prop} (h : MkA mem o v fi fr M S) (ok : M.Ok) (hb : ∀ i, S i → i < b) (x y : Int) :
    CallW PP 26 [.ptr o v 0, .int .i64 x, .int .i64 y] mem fun r m => r = .int .i64 (M.xorF x y).1 ∧ MkA m o v fi fr (M.xorF x y).2 (Ext S b (b + 400)) ∧ Frame S b mem m := by
  have hout : ¬ S (b + 12) := fun h => by have := hb _ h; omega
  obtain ⟨ex, hb'⟩ := ext_out hb 300
  have so : S o := by obtain ⟨_, _, _, _, _, _, _, so, _⟩ := h; exact so
  refine Fn.call fmix (g26 b) ?_
  unfold b26 q26
  simp -implicitDefEqProofs only [vqa, Nat.reduceEqDiff, Nat.reduceAdd, reduceIte, Nat.reduceLeDiff, Nat.reduceBEq, Nat.reduceLT, Nat.reduceSub, Int.reduceLT, Int.reduceLE, Int.reduceEq, Int.reduceToNat, Nat.reduceMul, eq_self, implies_true, forall_const]
  refine (p54t (a := x) (b := y) (h.setOut (k := b + 12) hout) ok (set_same _ _ _) rfl rfl).mono fun r m1 ⟨hr, hM, hF⟩ => ?_
  subst hr
  by_cases q : M.two x y
  · rw [if_pos q] at hM
    simp -implicitDefEqProofs only [vqa, Nat.reduceEqDiff, Nat.reduceAdd, reduceIte, Nat.reduceLeDiff, Nat.reduceBEq, Nat.reduceLT, Nat.reduceSub, Int.reduceLT, Int.reduceLE, Int.reduceEq, Int.reduceToNat, Nat.reduceMul, eq_self, implies_true, forall_const, q]
    refine CallW.sc (p44 _) rfl ⟨trivial, trivial⟩ fun r hr => ⟨by subst hr; rfl, ?_⟩
    subst hr
    simp -implicitDefEqProofs only [vqa, Nat.reduceEqDiff, Nat.reduceAdd, reduceIte, Nat.reduceLeDiff, Nat.reduceBEq, Nat.reduceLT, Nat.reduceSub, Int.reduceLT, Int.reduceLE, Int.reduceEq, Int.reduceToNat, Nat.reduceMul, eq_self, implies_true, forall_const]
    refine CallW.sc (p44 _) rfl ⟨trivial, trivial⟩ fun r hr => ⟨by subst hr; rfl, ?_⟩
    subst hr
    simp -implicitDefEqProofs only [vqa, Nat.reduceEqDiff, Nat.reduceAdd, reduceIte, Nat.reduceLeDiff, Nat.reduceBEq, Nat.reduceLT, Nat.reduceSub, Int.reduceLT, Int.reduceLE, Int.reduceEq, Int.reduceToNat, Nat.reduceMul, eq_self, implies_true, forall_const]
    refine (p56 (b + 100) hM ok hb' _ _ _ _).mono fun r m2 ⟨hr, hM2, hF2⟩ => ?_
    subst hr
    simp -implicitDefEqProofs only [vqa, Nat.reduceEqDiff, Nat.reduceAdd, reduceIte, Nat.reduceLeDiff, Nat.reduceBEq, Nat.reduceLT, Nat.reduceSub, Int.reduceLT, Int.reduceLE, Int.reduceEq, Int.reduceToNat, Nat.reduceMul, eq_self, implies_true, forall_const, Mak.xorF, q]
    refine ⟨hM2.wide ex, fun i hi hs => ?_⟩
    rw [hF2 i (by omega) hs, hF i (fun e => hs (e ▸ so)), set_ne (by omega)]
  · rw [if_neg q] at hM
    simp -implicitDefEqProofs only [vqa, Nat.reduceEqDiff, Nat.reduceAdd, reduceIte, Nat.reduceLeDiff, Nat.reduceBEq, Nat.reduceLT, Nat.reduceSub, Int.reduceLT, Int.reduceLE, Int.reduceEq, Int.reduceToNat, Nat.reduceMul, eq_self, implies_true, forall_const, q, Mak.xorF]
    refine ⟨hM.wide fun _ => .inl, fun i hi hs => ?_⟩
    rw [hF i (fun e => hs (e ▸ so)), set_ne (by omega)]
theorem p24 (b : Nat) {mem : Mem} {o v : Nat} {fi fr : Nat → AV} {M : Mak} {S : Nat → Prop} (h : MkA mem o v fi fr M S) (ok : M.Ok) (hb : ∀ i, S i → i < b) (x y : Int) :
    CallW PP 24 [.ptr o v 0, .int .i64 x, .int .i64 y] mem fun r m => r = .int .i64 (M.andF x y).1 ∧ MkA m o v fi fr (M.andF x y).2 (Ext S b (b + 200)) ∧ Frame S b mem m := by
  have hout : ¬ S (b + 12) := fun h => by have := hb _ h; omega
  obtain ⟨ex, hb'⟩ := ext_out hb 100
  have so : S o := by obtain ⟨_, _, _, _, _, _, _, so, _⟩ := h; exact so
  refine Fn.call fmix (g24 b) ?_
  unfold b24 q24
  simp -implicitDefEqProofs only [vqa, Nat.reduceEqDiff, Nat.reduceAdd, reduceIte, Nat.reduceLeDiff, Nat.reduceBEq, Nat.reduceLT, Nat.reduceSub, Int.reduceLT, Int.reduceLE, Int.reduceEq, Int.reduceToNat, Nat.reduceMul, eq_self, implies_true, forall_const]
  refine (p54t (a := x) (b := y) (h.setOut (k := b + 12) hout) ok (set_same _ _ _) rfl rfl).mono fun r m1 ⟨hr, hM, hF⟩ => ?_
  subst hr
  by_cases q : M.two x y
  · rw [if_pos q] at hM
    simp -implicitDefEqProofs only [vqa, Nat.reduceEqDiff, Nat.reduceAdd, reduceIte, Nat.reduceLeDiff, Nat.reduceBEq, Nat.reduceLT, Nat.reduceSub, Int.reduceLT, Int.reduceLE, Int.reduceEq, Int.reduceToNat, Nat.reduceMul, eq_self, implies_true, forall_const, q]
    refine (p55 (b + 100) hM ok hb' _ _).mono fun r m2 ⟨hr, hM2, hF2⟩ => ?_
    subst hr
    simp -implicitDefEqProofs only [vqa, Nat.reduceEqDiff, Nat.reduceAdd, reduceIte, Nat.reduceLeDiff, Nat.reduceBEq, Nat.reduceLT, Nat.reduceSub, Int.reduceLT, Int.reduceLE, Int.reduceEq, Int.reduceToNat, Nat.reduceMul, eq_self, implies_true, forall_const, Mak.andF, q]
    refine ⟨hM2.wide ex, fun i hi hs => ?_⟩
    rw [hF2 i (by omega) hs, hF i (fun e => hs (e ▸ so)), set_ne (by omega)]
  · rw [if_neg q] at hM
    simp -implicitDefEqProofs only [vqa, Nat.reduceEqDiff, Nat.reduceAdd, reduceIte, Nat.reduceLeDiff, Nat.reduceBEq, Nat.reduceLT, Nat.reduceSub, Int.reduceLT, Int.reduceLE, Int.reduceEq, Int.reduceToNat, Nat.reduceMul, eq_self, implies_true, forall_const, q, Mak.andF]
    refine ⟨hM.wide fun _ => .inl, fun i hi hs => ?_⟩
    rw [hF i (fun e => hs (e ▸ so)), set_ne (by omega)]

def Mak.inF (M : Mak) (i : Int) : Int × Mak := if i < 0 ∨ (M.ni : Int) ≤ i then (0, M.fail 2) else (2 * (1 + i), M)
theorem p11 {mem : Mem} {o v : Nat} {fi fr : Nat → AV} {M : Mak} {S : Nat → Prop} (h : MkA mem o v fi fr M S) (ok : M.Ok) (i : Int) :
    CallW PP 11 [.ptr o v 0, .int .i64 i] mem fun r m => r = .int .i64 (M.inF i).1 ∧ MkA m o v fi fr (M.inF i).2 S ∧ ∀ k, k ≠ o → m k = mem k := by
  have h0 := h
  obtain ⟨av, sid, sv, p, g, h1, h2, l1, l3, l5, hA, hp, hg⟩ := h
  have n1 := ok.ni
  refine Fn.call fmix f11 ?_
  unfold a11 r11
  simp -implicitDefEqProofs only [vqa, Nat.reduceEqDiff, Nat.reduceAdd, reduceIte, Nat.reduceLeDiff, Nat.reduceBEq, Nat.reduceLT, Nat.reduceSub, Int.reduceLT, Int.reduceLE, Int.reduceEq, Int.reduceToNat, Nat.reduceMul, eq_self, implies_true, forall_const, h1]
  by_cases c : i < 0 ∨ (M.ni : Int) ≤ i
  · have key : ∀ (K : Env → Mem → Prop) (e : Env), CallW PP 43 [.ptr o v 0, .int .i64 2] mem (callK PP (some 17) (fun _ _ => True) [] e) := fun _ _ => (p43 h0 2).mono fun _ _ _ => trivial
    have e : M.inF i = (0, M.fail 2) := if_pos c
    rw [e]
    refine ⟨fun k1 => ⟨fun k2 => ?_, fun k2 => absurd c (by omega)⟩, fun k1 => ?_⟩
    · refine (p43 h0 2).mono fun r m ⟨hr, hM, hF⟩ => ?_
      subst hr
      simp -implicitDefEqProofs only [vqa, Nat.reduceEqDiff, Nat.reduceAdd, reduceIte, Nat.reduceLeDiff, Nat.reduceBEq, Nat.reduceLT, Nat.reduceSub, Int.reduceLT, Int.reduceLE, Int.reduceEq, Int.reduceToNat, Nat.reduceMul, eq_self, implies_true, forall_const]
      exact ⟨hM, hF⟩
    · refine (p43 h0 2).mono fun r m ⟨hr, hM, hF⟩ => ?_
      subst hr
      simp -implicitDefEqProofs only [vqa, Nat.reduceEqDiff, Nat.reduceAdd, reduceIte, Nat.reduceLeDiff, Nat.reduceBEq, Nat.reduceLT, Nat.reduceSub, Int.reduceLT, Int.reduceLE, Int.reduceEq, Int.reduceToNat, Nat.reduceMul, eq_self, implies_true, forall_const]
      exact ⟨hM, hF⟩
  · have e : M.inF i = (2 * (1 + i), M) := if_neg c
    rw [e]
    refine ⟨fun k1 => ⟨fun k2 => absurd (.inr k2) c, fun k2 => ?_⟩, fun k1 => absurd (.inl k1) c⟩
    rw [wI (n := 1 + i) (by omega) (by omega), wI (n := 2 * (1 + i)) (by omega) (by omega)]
    exact ⟨rfl, h0⟩

end Go.Ab
