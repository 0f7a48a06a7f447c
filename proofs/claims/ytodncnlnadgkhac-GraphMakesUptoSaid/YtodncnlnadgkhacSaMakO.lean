/- Walk: Or of the maker. -/
import Derived.Test.YtodncnlnadgkhacSaMak2
set_option linter.unusedSimpArgs false
set_option linter.unusedVariables false
namespace Go.Ab
open Go
def b25 (b : Nat) : AC := (.seq (.ops [⟨(some 6), none, (.v (.mv (.c (.int .i64 0))))⟩]) (.seq (.seq (.ops [⟨(some 9), none, (.v (.mv (.t 0)))⟩, ⟨(some 10), none, (.v (.mv (.t 1)))⟩, ⟨(some 11), none, (.v (.mv (.t 2)))⟩, ⟨(some 12), none, (.e (.lit (b + 12) 35 1 2 [(.int .i64 0)] [(0, (.t 10)), (1, (.t 11))]))⟩, ⟨(some 13), none, (.call (.c (.fn 54 [])) [(.t 9), (.t 12)])⟩, ⟨(some 14), none, (.v (.not (.t 13)))⟩]) (.cond (.t 14) (.seq (.ops [⟨(some 6), none, (.v (.mv (.c (.int .i64 0))))⟩]) .ret) .skip)) (.seq (.ops [⟨(some 16), none, (.v (.mv (.t 0)))⟩, ⟨(some 17), none, (.v (.mv (.t 1)))⟩, ⟨(some 18), none, (.call (.c (.fn 44 [])) [(.t 17)])⟩, ⟨(some 19), none, (.v (.mv (.t 2)))⟩, ⟨(some 20), none, (.call (.c (.fn 44 [])) [(.t 19)])⟩, ⟨(some 21), none, (.call (.c (.fn 55 [])) [(.t 16), (.t 18), (.t 20)])⟩, ⟨(some 15), none, (.v (.mv (.t 21)))⟩, ⟨(some 22), none, (.v (.ext 0 (.t 15)))⟩, ⟨(some 23), none, (.v (.ext 1 (.t 15)))⟩, ⟨(some 7), none, (.v (.mv (.t 22)))⟩, ⟨(some 8), none, (.v (.mv (.t 23)))⟩]) (.seq (.seq (.ops [⟨(some 24), none, (.v (.mv (.t 8)))⟩, ⟨(some 25), none, (.v (.not (.t 24)))⟩]) (.cond (.t 25) (.seq (.ops [⟨(some 6), none, (.v (.mv (.c (.int .i64 0))))⟩]) .ret) .skip)) (.seq (.ops [⟨(some 26), none, (.v (.mv (.t 7)))⟩, ⟨(some 27), none, (.call (.c (.fn 44 [])) [(.t 26)])⟩, ⟨(some 6), none, (.v (.mv (.t 27)))⟩]) .ret)))))
def q25 : List AI := [(.mv (.t 6))]
theorem g25 (b : Nat) : Fn PP 25 3 (b25 b) q25 := Fn.ofB b (fn := Go.Proofs.Try.f25) (by kernel_rfl) (by kernel_rfl) (by kernel_rfl)
def Mak.orF (M : Mak) (a b : Int) : Int × Mak := if M.two a b then (if (M.and (notL a) (notL b)).2.1 = true then notL (M.and (notL a) (notL b)).1 else 0, (M.and (notL a) (notL b)).2.2) else (0, M.fail 2)
theorem p25 (b : Nat) {mem : Mem} {o v : Nat} {fi fr : Nat → AV} {M : Mak} {S : Nat → Prop} (h : MkA mem o v fi fr M S) (ok : M.Ok) (hb : ∀ i, S i → i < b) (x y : Int) :
    CallW PP 25 [.ptr o v 0, .int .i64 x, .int .i64 y] mem fun r m => r = .int .i64 (M.orF x y).1 ∧ MkA m o v fi fr (M.orF x y).2 (Ext S b (b + 200)) ∧ Frame S b mem m := by
  have hout : ¬ S (b + 12) := fun h => by have := hb _ h; omega
  obtain ⟨ex, hb'⟩ := ext_out hb 100
  have so : S o := by obtain ⟨_, _, _, _, _, _, _, so, _⟩ := h; exact so
  refine Fn.call fmix (g25 b) ?_
  unfold b25 q25
  simp -implicitDefEqProofs only [vqa, Nat.reduceEqDiff, Nat.reduceAdd, reduceIte, Nat.reduceLeDiff, Nat.reduceBEq, Nat.reduceLT, Nat.reduceSub, Int.reduceLT, Int.reduceLE, Int.reduceEq, Int.reduceToNat, Nat.reduceMul, eq_self, implies_true, forall_const]
  refine (p54t (a := x) (b := y) (h.setOut (k := b + 12) hout) ok (set_same _ _ _) rfl rfl).mono fun r m1 ⟨hr, hM, hF⟩ => ?_
  subst hr
  by_cases q : M.two x y
  · rw [if_pos q] at hM
    simp -implicitDefEqProofs only [vqa, Nat.reduceEqDiff, Nat.reduceAdd, reduceIte, Nat.reduceLeDiff, Nat.reduceBEq, Nat.reduceLT, Nat.reduceSub, Int.reduceLT, Int.reduceLE, Int.reduceEq, Int.reduceToNat, Nat.reduceMul, eq_self, implies_true, forall_const, q]
    refine CallW.sc (p44 _) rfl ⟨trivial, trivial⟩ fun r hr => ⟨by subst hr; rfl, ?_⟩
    subst hr
    simp -implicitDefEqProofs only [vqa, Nat.reduceEqDiff, Nat.reduceAdd, reduceIte, Nat.reduceLeDiff, Nat.reduceBEq, Nat.reduceLT, Nat.reduceSub, Int.reduceLT, Int.reduceLE, Int.reduceEq, Int.reduceToNat, Nat.reduceMul, eq_self, implies_true, forall_const]
    refine CallW.sc (p44 _) rfl ⟨trivial, trivial⟩ fun r hr => ⟨by subst hr; rfl, ?_⟩
    subst hr
    simp -implicitDefEqProofs only [vqa, Nat.reduceEqDiff, Nat.reduceAdd, reduceIte, Nat.reduceLeDiff, Nat.reduceBEq, Nat.reduceLT, Nat.reduceSub, Int.reduceLT, Int.reduceLE, Int.reduceEq, Int.reduceToNat, Nat.reduceMul, eq_self, implies_true, forall_const]
    refine (p55 (b + 100) hM ok hb' _ _).mono fun r m2 ⟨hr, hM2, hF2⟩ => ?_
    subst hr
    have hFr : Frame S b mem m2 := fun i hi hs => by rw [hF2 i (by omega) hs, hF i (fun e => hs (e ▸ so)), set_ne (by omega)]
    simp -implicitDefEqProofs only [vqa, Nat.reduceEqDiff, Nat.reduceAdd, reduceIte, Nat.reduceLeDiff, Nat.reduceBEq, Nat.reduceLT, Nat.reduceSub, Int.reduceLT, Int.reduceLE, Int.reduceEq, Int.reduceToNat, Nat.reduceMul, eq_self, implies_true, forall_const]
    cases hok : (M.and (notL x) (notL y)).2.1 with
    | false =>
      simp -implicitDefEqProofs only [vqa, Nat.reduceEqDiff, Nat.reduceAdd, reduceIte, Nat.reduceLeDiff, Nat.reduceBEq, Nat.reduceLT, Nat.reduceSub, Int.reduceLT, Int.reduceLE, Int.reduceEq, Int.reduceToNat, Nat.reduceMul, eq_self, implies_true, forall_const, Mak.orF, q, hok]
      exact ⟨hM2.wide ex, hFr⟩
    | true =>
      simp -implicitDefEqProofs only [vqa, Nat.reduceEqDiff, Nat.reduceAdd, reduceIte, Nat.reduceLeDiff, Nat.reduceBEq, Nat.reduceLT, Nat.reduceSub, Int.reduceLT, Int.reduceLE, Int.reduceEq, Int.reduceToNat, Nat.reduceMul, eq_self, implies_true, forall_const, Mak.orF, q, hok]
      refine CallW.sc (p44 _) rfl ⟨trivial, trivial⟩ fun r hr => ⟨by subst hr; rfl, ?_⟩
      subst hr
      simp -implicitDefEqProofs only [vqa, Nat.reduceEqDiff, Nat.reduceAdd, reduceIte, Nat.reduceLeDiff, Nat.reduceBEq, Nat.reduceLT, Nat.reduceSub, Int.reduceLT, Int.reduceLE, Int.reduceEq, Int.reduceToNat, Nat.reduceMul, eq_self, implies_true, forall_const]
      exact ⟨hM2.wide ex, hFr⟩
  · rw [if_neg q] at hM
    simp -implicitDefEqProofs only [vqa, Nat.reduceEqDiff, Nat.reduceAdd, reduceIte, Nat.reduceLeDiff, Nat.reduceBEq, Nat.reduceLT, Nat.reduceSub, Int.reduceLT, Int.reduceLE, Int.reduceEq, Int.reduceToNat, Nat.reduceMul, eq_self, implies_true, forall_const, q, Mak.orF]
    refine ⟨hM.wide fun _ => .inl, fun i hi hs => ?_⟩
    rw [hF i (fun e => hs (e ▸ so)), set_ne (by omega)]
end Go.Ab
