/- Walks: more of the maker of graphs, its tables. -/
import Derived.Test.YtodncnlnadgkhacSaMaker
import Derived.Test.YtodncnlnadgkhacLwBit
import Derived.Test.YtodncnlnadgkhacLwGraph
set_option linter.unusedSimpArgs false
set_option linter.unusedVariables false
namespace Go.Ab
open Go
def a12 : AC := (.seq (.ops [⟨(some 4), none, (.v (.mv (.c (.int .i64 0))))⟩]) (.seq (.seq (.ops [⟨(some 5), none, (.v (.mv (.t 1)))⟩, ⟨(some 6), none, (.v (.bin .lss (.t 5) (.c (.int .i64 0))))⟩, ⟨(some 7), none, (.v (.mv (.t 6)))⟩, ⟨(some 8), (some (7, false)), (.v (.mv (.t 1)))⟩, ⟨(some 9), (some (7, false)), (.v (.mv (.t 0)))⟩, ⟨(some 10), (some (7, false)), (.v (.nilck (.t 9)))⟩, ⟨(some 11), (some (7, false)), (.v (.fld 1 (.t 10)))⟩, ⟨(some 12), (some (7, false)), (.v (.load 1 false (.t 11)))⟩, ⟨(some 13), (some (7, false)), (.v (.len (.t 12)))⟩, ⟨(some 14), (some (7, false)), (.v (.bin .geq (.t 8) (.t 13)))⟩, ⟨(some 15), none, (.v (.pick (.t 7) (.c (.bool true)) (.t 14)))⟩]) (.cond (.t 15) (.seq (.ops [⟨(some 16), none, (.v (.mv (.t 0)))⟩, ⟨(some 17), none, (.call (.c (.fn 43 [])) [(.t 16), (.c (.int .i64 2))])⟩, ⟨(some 4), none, (.v (.mv (.t 17)))⟩]) .ret) .skip)) (.seq (.ops [⟨(some 18), none, (.v (.mv (.t 0)))⟩, ⟨(some 19), none, (.v (.nilck (.t 18)))⟩, ⟨(some 20), none, (.v (.fld 0 (.t 19)))⟩, ⟨(some 21), none, (.v (.load 1 false (.t 20)))⟩, ⟨(some 22), none, (.v (.len (.t 21)))⟩, ⟨(some 23), none, (.v (.bin .add (.c (.int .i64 1)) (.t 22)))⟩, ⟨(some 24), none, (.v (.mv (.t 1)))⟩, ⟨(some 25), none, (.v (.bin .add (.t 23) (.t 24)))⟩, ⟨(some 26), none, (.v (.bin .mul (.c (.int .i64 2)) (.t 25)))⟩, ⟨(some 4), none, (.v (.mv (.t 26)))⟩]) .ret)))
def r12 : List AI := [(.mv (.t 4))]
theorem f12 : Fn PP 12 2 a12 r12 := Fn.of (fn := Go.Proofs.Try.f12) (by kernel_rfl) (by kernel_rfl) (by kernel_rfl)
def b27 (b : Nat) : AC := (.seq (.ops [⟨(some 8), none, (.v (.mv (.c (.int .i64 0))))⟩]) (.seq (.seq (.ops [⟨(some 11), none, (.v (.mv (.t 0)))⟩, ⟨(some 12), none, (.v (.mv (.t 1)))⟩, ⟨(some 13), none, (.v (.mv (.t 2)))⟩, ⟨(some 14), none, (.v (.mv (.t 3)))⟩, ⟨(some 15), none, (.e (.lit (b + 15) 35 1 3 [(.int .i64 0)] [(0, (.t 12)), (1, (.t 13)), (2, (.t 14))]))⟩, ⟨(some 16), none, (.call (.c (.fn 54 [])) [(.t 11), (.t 15)])⟩, ⟨(some 17), none, (.v (.not (.t 16)))⟩]) (.cond (.t 17) (.seq (.ops [⟨(some 8), none, (.v (.mv (.c (.int .i64 0))))⟩]) .ret) .skip)) (.seq (.ops [⟨(some 19), none, (.v (.mv (.t 0)))⟩, ⟨(some 20), none, (.v (.mv (.t 1)))⟩, ⟨(some 21), none, (.v (.mv (.t 2)))⟩, ⟨(some 22), none, (.v (.mv (.t 1)))⟩, ⟨(some 23), none, (.call (.c (.fn 44 [])) [(.t 22)])⟩, ⟨(some 24), none, (.v (.mv (.t 3)))⟩, ⟨(some 25), none, (.call (.c (.fn 56 [])) [(.t 19), (.t 20), (.t 21), (.t 23), (.t 24)])⟩, ⟨(some 18), none, (.v (.mv (.t 25)))⟩, ⟨(some 26), none, (.v (.ext 0 (.t 18)))⟩, ⟨(some 27), none, (.v (.ext 1 (.t 18)))⟩, ⟨(some 9), none, (.v (.mv (.t 26)))⟩, ⟨(some 10), none, (.v (.mv (.t 27)))⟩]) (.seq (.ops [⟨(some 28), none, (.v (.mv (.t 9)))⟩, ⟨(some 8), none, (.v (.mv (.t 28)))⟩]) .ret))))
def q27 : List AI := [(.mv (.t 8))]
theorem g27 (b : Nat) : Fn PP 27 4 (b27 b) q27 := Fn.ofB b (fn := Go.Proofs.Try.f27) (by kernel_rfl) (by kernel_rfl) (by kernel_rfl)
/-! ### plain: what a call may add -/
def Mak.Good (M : Mak) : Prop := ∀ k, k < M.n → litOk (M.base + k) (M.A k) ∧ litOk (M.base + k) (M.B k)
/-- At most c ands more, and all of them of nodes in front of them. -/
structure MStep (M M' : Mak) (c : Nat) : Prop where
  ni : M'.ni = M.ni
  nr : M'.nr = M.nr
  bad : M'.bad = M.bad
  lo : M.n ≤ M'.n
  hi : M'.n ≤ M.n + c
  good : M'.Good
theorem MStep.refl {M : Mak} (h : M.Good) {c : Nat} : MStep M M c := ⟨rfl, rfl, rfl, Nat.le_refl _, Nat.le_add_right _ _, h⟩
theorem MStep.trans {M M' M'' : Mak} {c d : Nat} (h : MStep M M' c) (k : MStep M' M'' d) : MStep M M'' (c + d) := ⟨k.ni.trans h.ni, k.nr.trans h.nr, k.bad.trans h.bad, Nat.le_trans h.lo k.lo, by have := h.hi; have := k.hi; omega, k.good⟩
theorem MStep.mono {M M' : Mak} {c d : Nat} (h : MStep M M' c) (hc : c ≤ d) : MStep M M' d := ⟨h.ni, h.nr, h.bad, h.lo, by have := h.hi; omega, h.good⟩
theorem MStep.bef {M M' : Mak} {c : Nat} (h : MStep M M' c) {l : Int} (hl : M.bef l) : M'.bef l := by
  obtain ⟨h1, h2⟩ := hl
  have e1 : M.nodes = 1 + M.ni + M.nr + M.n := rfl
  have e2 : M'.nodes = 1 + M'.ni + M'.nr + M'.n := rfl
  have := h.lo; have := h.ni; have := h.nr
  exact ⟨h1, by omega⟩
theorem Mak.nodes_le {M : Mak} (ok : M.Ok) : M.nodes ≤ 2101153 := by
  have := ok.ni; have := ok.nr; have := ok.n
  have : M.nodes = 1 + M.ni + M.nr + M.n := rfl
  omega
theorem bef_not {M : Mak} (ok : M.Ok) {l : Int} (h : M.bef l) : M.bef (notL l) := by
  have := Mak.nodes_le ok
  obtain ⟨h1, h2⟩ := h
  unfold notL
  rw [if_neg (by omega), x1_val h1 (by omega)]
  exact ⟨by split <;> omega, by split <;> omega⟩
theorem andS_step {M : Mak} (hg : M.Good) (hn : M.n < 4000) {a b : Int} (ha : M.bef a) (hb : M.bef b) : MStep M (M.andS a b).2.2 1 ∧ (M.andS a b).2.1 = true ∧ (M.andS a b).2.2.bef (M.andS a b).1 := by
  have e1 : M.nodes = M.base + M.n := rfl
  have e2 : M.base = 1 + M.ni + M.nr := rfl
  unfold Mak.andS
  split
  · exact ⟨.refl hg, rfl, ⟨Int.le_refl _, by show (0 : Int) < 2 * ((M.nodes : Nat) : Int); omega⟩⟩
  · split
    · exact ⟨.refl hg, rfl, hb⟩
    · split
      · rename_i h; exact ⟨.refl hg, rfl, ⟨by show (0 : Int) ≤ 2 * ((M.base + M.idx a b : Nat) : Int); omega, by show 2 * ((M.base + M.idx a b : Nat) : Int) < 2 * ((M.nodes : Nat) : Int); omega⟩⟩
      · rw [if_neg (by omega)]
        refine ⟨⟨rfl, rfl, rfl, by show M.n ≤ M.n + 1; omega, Nat.le_refl _, fun k hk => ?_⟩, rfl, ⟨by show (0 : Int) ≤ 2 * (M.nodes : Nat); omega, by show 2 * (M.nodes : Int) < 2 * ((M.base + (M.n + 1) : Nat) : Int); omega⟩⟩
        have hk : k < M.n + 1 := hk
        show litOk (M.base + k) (if k = M.n then a else M.A k) ∧ litOk (M.base + k) (if k = M.n then b else M.B k)
        by_cases e : k = M.n
        · rw [if_pos e, if_pos e, e]; exact ⟨ha, hb⟩
        · rw [if_neg e, if_neg e]; exact hg k (by omega)
theorem and_step {M : Mak} (hg : M.Good) (hn : M.n < 4000) {a b : Int} (ha : M.bef a) (hb : M.bef b) : MStep M (M.and a b).2.2 1 ∧ (M.and a b).2.1 = true ∧ (M.and a b).2.2.bef (M.and a b).1 := by
  unfold Mak.and
  refine andS_step hg hn ?_ ?_ <;> split <;> assumption
theorem pair_step {M : Mak} (ok : M.Ok) (hg : M.Good) (hn : M.n + 3 ≤ 4000) {a b c d : Int} (ha : M.bef a) (hb : M.bef b) (hc : M.bef c) (hd : M.bef d) : MStep M (M.pair a b c d).2.2 3 ∧ (M.pair a b c d).2.1 = true ∧ (M.pair a b c d).2.2.bef (M.pair a b c d).1 := by
  obtain ⟨s1, t1, v1⟩ := and_step hg (by omega) ha hb
  have ok1 := and_ok ok a b
  obtain ⟨s2, t2, v2⟩ := and_step s1.good (by have := s1.hi; omega) (s1.bef hc) (s1.bef hd)
  have ok2 := and_ok ok1 c d
  obtain ⟨s3, t3, v3⟩ := and_step s2.good (by have := s1.hi; have := s2.hi; omega) (bef_not ok2 (s2.bef v1)) (bef_not ok2 v2)
  have ok3 := and_ok ok2 (notL (M.and a b).1) (notL ((M.and a b).2.2.and c d).1)
  simp only [Mak.pair, t1, t2, t3, Bool.true_eq_false, or_self, if_false]
  exact ⟨(s1.trans s2).trans s3, trivial, bef_not ok3 v3⟩

def Mak.regF (M : Mak) (i : Int) : Int × Mak := if i < 0 ∨ (M.nr : Int) ≤ i then (0, M.fail 2) else (2 * (1 + M.ni + i), M)
theorem p12 {mem : Mem} {o v : Nat} {fi fr : Nat → AV} {M : Mak} {S : Nat → Prop} (h : MkA mem o v fi fr M S) (ok : M.Ok) (i : Int) :
    CallW PP 12 [.ptr o v 0, .int .i64 i] mem fun r m => r = .int .i64 (M.regF i).1 ∧ MkA m o v fi fr (M.regF i).2 S ∧ ∀ k, k ≠ o → m k = mem k := by
  have h0 := h
  obtain ⟨av, sid, sv, p, g, h1, h2, l1, l3, l5, hA, hp, hg⟩ := h
  have n1 := ok.ni; have n2 := ok.nr
  refine Fn.call fmix f12 ?_
  unfold a12 r12
  simp -implicitDefEqProofs only [vqa, Nat.reduceEqDiff, Nat.reduceAdd, reduceIte, Nat.reduceLeDiff, Nat.reduceBEq, Nat.reduceLT, Nat.reduceSub, Int.reduceLT, Int.reduceLE, Int.reduceEq, Int.reduceToNat, Nat.reduceMul, eq_self, implies_true, forall_const, h1]
  by_cases c : i < 0 ∨ (M.nr : Int) ≤ i
  · have e : M.regF i = (0, M.fail 2) := if_pos c
    rw [e]
    refine ⟨fun k1 => ⟨fun k2 => ?_, fun k2 => absurd c (by omega)⟩, fun k1 => ?_⟩
    · refine (p43 h0 2).mono fun r m ⟨hr, hM, hF⟩ => ?_
      subst hr
      simp -implicitDefEqProofs only [vqa, Nat.reduceEqDiff, Nat.reduceAdd, reduceIte, Nat.reduceLeDiff, Nat.reduceBEq, Nat.reduceLT, Nat.reduceSub, Int.reduceLT, Int.reduceLE, Int.reduceEq, Int.reduceToNat, Nat.reduceMul, eq_self, implies_true, forall_const]
      exact ⟨hM, hF⟩
    · refine (p43 h0 2).mono fun r m ⟨hr, hM, hF⟩ => ?_
      subst hr
      simp -implicitDefEqProofs only [vqa, Nat.reduceEqDiff, Nat.reduceAdd, reduceIte, Nat.reduceLeDiff, Nat.reduceBEq, Nat.reduceLT, Nat.reduceSub, Int.reduceLT, Int.reduceLE, Int.reduceEq, Int.reduceToNat, Nat.reduceMul, eq_self, implies_true, forall_const]
      exact ⟨hM, hF⟩
  · have e : M.regF i = (2 * (1 + M.ni + i), M) := if_neg c
    rw [e]
    refine ⟨fun k1 => ⟨fun k2 => absurd (.inr k2) c, fun k2 => ?_⟩, fun k1 => absurd (.inl k1) c⟩
    rw [wI (n := 1 + (M.ni : Int)) (by omega) (by omega), wI (n := 1 + (M.ni : Int) + i) (by omega) (by omega), wI (by omega) (by omega)]
    exact ⟨rfl, h0⟩
def Mak.three (M : Mak) (a b c : Int) : Prop := M.bef a ∧ M.bef b ∧ M.bef c
instance (M : Mak) (a b c : Int) : Decidable (M.three a b c) := by unfold Mak.three; exact inferInstance
theorem three_iff (M : Mak) (a b c : Int) : (∀ i, i < 3 → M.bef ([a, b, c].getD i 0)) ↔ M.three a b c := by
  constructor
  · exact fun h => ⟨h 0 (by omega), h 1 (by omega), h 2 (by omega)⟩
  · rintro h i hi
    have : i = 0 ∨ i = 1 ∨ i = 2 := by omega
    rcases this with rfl | rfl | rfl
    · exact h.1
    · exact h.2.1
    · exact h.2.2
theorem p54h {mem : Mem} {o v : Nat} {fi fr : Nat → AV} {M : Mak} {S : Nat → Prop} (h : MkA mem o v fi fr M S) (ok : M.Ok) {lid lv : Nat} {f : Nat → AV} {a b c : Int} (hl : mem lid = .row lv 35 1 3 f) (ha : f 0 = .int .i64 a) (hb : f 1 = .int .i64 b) (hc : f 2 = .int .i64 c) :
    CallW PP 54 [.ptr o v 0, .sl lid lv 3] mem fun r m => r = .bool (decide (M.three a b c)) ∧ MkA m o v fi fr (if M.three a b c then M else M.fail 2) S ∧ ∀ i, i ≠ o → m i = mem i := by
  refine (p54 h ok hl (x := fun i => [a, b, c].getD i 0) (by omega) fun i hi => ?_).mono fun r m ⟨h1, h2, h3⟩ => ⟨?_, ?_, h3⟩
  · have : i = 0 ∨ i = 1 ∨ i = 2 := by omega
    rcases this with rfl | rfl | rfl
    · exact ha
    · exact hb
    · exact hc
  · rw [h1]; congr 1; exact decide_eq_decide.2 (three_iff M a b c)
  · by_cases q : M.three a b c
    · rw [if_pos ((three_iff M a b c).2 q)] at h2; rw [if_pos q]; exact h2
    · rw [if_neg (fun z => q ((three_iff M a b c).1 z))] at h2; rw [if_neg q]; exact h2
def Mak.muxF (M : Mak) (s a b : Int) : Int × Mak := if M.three s a b then ((M.pair s a (notL s) b).1, (M.pair s a (notL s) b).2.2) else (0, M.fail 2)
theorem p27 (b : Nat) {mem : Mem} {o v : Nat} {fi fr : Nat → AV} {M : Mak} {S : Nat → Prop} (h : MkA mem o v fi fr M S) (ok : M.Ok) (hb : ∀ i, S i → i < b) (s x y : Int) :
    CallW PP 27 [.ptr o v 0, .int .i64 s, .int .i64 x, .int .i64 y] mem fun r m => r = .int .i64 (M.muxF s x y).1 ∧ MkA m o v fi fr (M.muxF s x y).2 (Ext S b (b + 400)) ∧ Frame S b mem m := by
  have hout : ¬ S (b + 15) := fun h => by have := hb _ h; omega
  obtain ⟨ex, hb'⟩ := ext_out hb 300
  have so : S o := by obtain ⟨_, _, _, _, _, _, _, so, _⟩ := h; exact so
  refine Fn.call fmix (g27 b) ?_
  unfold b27 q27
  simp -implicitDefEqProofs only [vqa, Nat.reduceEqDiff, Nat.reduceAdd, reduceIte, Nat.reduceLeDiff, Nat.reduceBEq, Nat.reduceLT, Nat.reduceSub, Int.reduceLT, Int.reduceLE, Int.reduceEq, Int.reduceToNat, Nat.reduceMul, eq_self, implies_true, forall_const]
  refine (p54h (a := s) (b := x) (c := y) (h.setOut (k := b + 15) hout) ok (set_same _ _ _) rfl rfl rfl).mono fun r m1 ⟨hr, hM, hF⟩ => ?_
  subst hr
  by_cases q : M.three s x y
  · rw [if_pos q] at hM
    simp -implicitDefEqProofs only [vqa, Nat.reduceEqDiff, Nat.reduceAdd, reduceIte, Nat.reduceLeDiff, Nat.reduceBEq, Nat.reduceLT, Nat.reduceSub, Int.reduceLT, Int.reduceLE, Int.reduceEq, Int.reduceToNat, Nat.reduceMul, eq_self, implies_true, forall_const, q]
    refine CallW.sc (p44 _) rfl ⟨trivial, trivial⟩ fun r hr => ⟨by subst hr; rfl, ?_⟩
    subst hr
    simp -implicitDefEqProofs only [vqa, Nat.reduceEqDiff, Nat.reduceAdd, reduceIte, Nat.reduceLeDiff, Nat.reduceBEq, Nat.reduceLT, Nat.reduceSub, Int.reduceLT, Int.reduceLE, Int.reduceEq, Int.reduceToNat, Nat.reduceMul, eq_self, implies_true, forall_const]
    refine (p56 (b + 100) hM ok hb' _ _ _ _).mono fun r m2 ⟨hr, hM2, hF2⟩ => ?_
    subst hr
    simp -implicitDefEqProofs only [vqa, Nat.reduceEqDiff, Nat.reduceAdd, reduceIte, Nat.reduceLeDiff, Nat.reduceBEq, Nat.reduceLT, Nat.reduceSub, Int.reduceLT, Int.reduceLE, Int.reduceEq, Int.reduceToNat, Nat.reduceMul, eq_self, implies_true, forall_const, Mak.muxF, q]
    refine ⟨hM2.wide ex, fun i hi hs => ?_⟩
    rw [hF2 i (by omega) hs, hF i (fun e => hs (e ▸ so)), set_ne (by omega)]
  · rw [if_neg q] at hM
    simp -implicitDefEqProofs only [vqa, Nat.reduceEqDiff, Nat.reduceAdd, reduceIte, Nat.reduceLeDiff, Nat.reduceBEq, Nat.reduceLT, Nat.reduceSub, Int.reduceLT, Int.reduceLE, Int.reduceEq, Int.reduceToNat, Nat.reduceMul, eq_self, implies_true, forall_const, q, Mak.muxF]
    refine ⟨hM.wide fun _ => .inl, fun i hi hs => ?_⟩
    rw [hF i (fun e => hs (e ▸ so)), set_ne (by omega)]
end Go.Ab
namespace Go.Ab
open Go
def a57_0 : AC := (.seq (.ops [⟨(some 11), none, (.v (.bin .lss (.t 10) (.t 9)))⟩]) (.seq (.cond (.t 11) .skip (.exit 0)) (.seq (.block 1 (.seq (.ops [⟨(some 12), none, (.v (.mv (.t 10)))⟩, ⟨(some 7), none, (.v (.mv (.t 12)))⟩]) (.seq (.any [⟨(some 13), none, (.v (.mv (.t 7)))⟩, ⟨(some 14), none, (.v (.mv (.t 2)))⟩, ⟨(some 15), none, (.v (.bin .shr (.t 13) (.t 14)))⟩, ⟨(some 16), none, (.v (.bin .and (.t 15) (.c (.int .i64 1))))⟩, ⟨(some 17), none, (.v (.bin .eql (.t 16) (.c (.int .i64 0))))⟩, ⟨(some 18), none, (.v (.mv (.t 17)))⟩, ⟨(some 19), (some (18, true)), (.v (.mv (.t 0)))⟩, ⟨(some 20), (some (18, true)), (.v (.mv (.t 7)))⟩, ⟨(some 21), (some (18, true)), (.v (.bin .shr (.t 19) (.t 20)))⟩, ⟨(some 22), (some (18, true)), (.v (.bin .and (.t 21) (.c (.int .u64 1))))⟩, ⟨(some 23), (some (18, true)), (.v (.mv (.t 0)))⟩, ⟨(some 24), (some (18, true)), (.v (.mv (.t 7)))⟩, ⟨(some 25), (some (18, true)), (.v (.mv (.t 2)))⟩, ⟨(some 26), (some (18, true)), (.v (.bin .shl (.c (.int .i64 1)) (.t 25)))⟩, ⟨(some 27), (some (18, true)), (.v (.bin .or (.t 24) (.t 26)))⟩, ⟨(some 28), (some (18, true)), (.v (.bin .shr (.t 23) (.t 27)))⟩, ⟨(some 29), (some (18, true)), (.v (.bin .and (.t 28) (.c (.int .u64 1))))⟩, ⟨(some 30), (some (18, true)), (.v (.bin .neq (.t 22) (.t 29)))⟩, ⟨(some 31), none, (.v (.pick (.t 18) (.t 30) (.c (.bool false))))⟩] [[], [], [0, 1], [2], [3], [4], [5], [5], [6, 7, 5], [8, 5], [5], [5], [5], [12, 5], [11, 13, 5], [10, 14, 5], [15, 5], [9, 16, 5], [5, 17]]) (.cond (.t 31) (.seq (.ops [⟨(some 6), none, (.v (.mv (.c (.bool true))))⟩]) .ret) .skip)))) (.ops [⟨(some 32), none, (.v (.bin .add (.t 10) (.c (.int .i64 1))))⟩, ⟨(some 10), none, (.v (.mv (.t 32)))⟩]))))
def a57 : AC := (.seq (.ops [⟨(some 6), none, (.v (.mv (.c (.bool false))))⟩]) (.seq (.seq (.ops [⟨(some 8), none, (.v (.mv (.t 1)))⟩, ⟨(some 9), none, (.v (.bin .shl (.c (.int .i64 1)) (.t 8)))⟩, ⟨(some 10), none, (.v (.mv (.c (.int .i64 0))))⟩]) (.block 0 (.loop a57_0))) (.seq (.ops [⟨(some 6), none, (.v (.mv (.c (.bool false))))⟩]) .ret)))
def r57 : List AI := [(.mv (.t 6))]
theorem f57 : Fn PP 57 3 a57 r57 := Fn.of (fn := Go.Proofs.Try.f57) (by kernel_rfl) (by kernel_rfl) (by kernel_rfl)
theorem two_lt : ∀ i, i < 7 → (2 : Int) ^ i ≤ 64 := by decide
theorem two_cast (i : Nat) : ((2 ^ i : Nat) : Int) = (2 : Int) ^ i := by simp
theorem p57 (t : Int) (n i : Nat) (ht : U64 t) (hn : n < 7) (hi : i < n) : Pure PP 57 [.int .u64 t, .int .i64 (n : Nat), .int .i64 (i : Nat)] fun r => ∃ b, r = .bool b ∧ (b = true ↔ depP t n i) := by
  have h64 := p_le n hn
  have e1 := shl_one hn
  have hi64 := p_le i (by omega)
  have e2 := shl_one (n := i) (by omega)
  have k0 : ¬ (n : Int) < 0 := by omega
  have k1 : ¬ (i : Int) < 0 := by omega
  refine Fn.pure fmix f57 ?_
  unfold a57 r57
  simp -implicitDefEqProofs only [vqa, Nat.reduceEqDiff, Nat.reduceAdd, reduceIte, Nat.reduceLeDiff, Nat.reduceBEq, Nat.reduceLT, Nat.reduceSub, Int.reduceLT, Int.reduceLE, Int.reduceEq, Int.reduceToNat, Nat.reduceMul, eq_self, implies_true, forall_const, e1]
  refine ⟨by omega, ?_⟩
  refine vFor (2 ^ n) (fun k e m => e 0 = .int .u64 t ∧ e 1 = .int .i64 (n : Nat) ∧ e 2 = .int .i64 (i : Nat) ∧ e 9 = .int .i64 ((2 ^ n : Nat) : Int) ∧ e 10 = .int .i64 (k : Nat) ∧ ∀ j, j < k → j / 2 ^ i % 2 = 0 → bit t j = bit t (j + 2 ^ i)) ?_ ?_ ?_
  · simp -implicitDefEqProofs only [vqa, Nat.reduceEqDiff, Nat.reduceAdd, reduceIte, Nat.reduceLeDiff, Nat.reduceBEq, Nat.reduceLT, Nat.reduceSub, Int.reduceLT, Int.reduceLE, Int.reduceEq, Int.reduceToNat, Nat.reduceMul, eq_self, implies_true, forall_const]
  · rintro k e m hk hk' ⟨e0, e1', e2', e9, e10, hall⟩
    unfold a57_0
    simp -implicitDefEqProofs only [vqa, Nat.reduceEqDiff, Nat.reduceAdd, reduceIte, Nat.reduceLeDiff, Nat.reduceBEq, Nat.reduceLT, Nat.reduceSub, Int.reduceLT, Int.reduceLE, Int.reduceEq, Int.reduceToNat, Nat.reduceMul, eq_self, implies_true, forall_const, e0, e1', e2', e9, e10, hk']
    refine vAny [0, 1, 2, 3, 4, 5, 6, 7, 8, 9, 10, 11, 12, 13, 14, 15, 16, 17, 18] 19 allL (by kernel_rfl) (by kernel_rfl) ?_
    simp -implicitDefEqProofs only [vqa, Nat.reduceEqDiff, Nat.reduceAdd, reduceIte, Nat.reduceLeDiff, Nat.reduceBEq, Nat.reduceLT, Nat.reduceSub, Int.reduceLT, Int.reduceLE, Int.reduceEq, Int.reduceToNat, Nat.reduceMul, eq_self, implies_true, forall_const, e0, e1', e2', e9, e10, e2]
    have hk64 : k < 64 := by omega
    have hand := shift_and_one_i64 k (by omega) i (by omega)
    rw [hand]
    have hnext : ∀ (q : ¬ (k / 2 ^ i % 2 = 0 ∧ bit t k ≠ bit t (k + 2 ^ i))), ∀ j, j < k + 1 → j / 2 ^ i % 2 = 0 → bit t j = bit t (j + 2 ^ i) := fun q j hj h0 => by
      by_cases e : j < k
      · exact hall j e h0
      · obtain rfl : j = k := by omega
        exact Classical.byContradiction fun hne => q ⟨h0, hne⟩
    refine ⟨by omega, fun hz => ?_, fun hz => ?_⟩
    · have h0 : k / 2 ^ i % 2 = 0 := by
        rcases (by omega : k / 2 ^ i % 2 = 0 ∨ k / 2 ^ i % 2 = 1) with h | h
        · exact h
        · rw [Nat.testBit_eq_decide_div_mod_eq, h] at hz; simp at hz
      have hor : bitop .or .i64 (k : Int) ((2 ^ i : Nat) : Int) = ((k + 2 ^ i : Nat) : Int) := by
        rw [or_i64t (by omega) (by omega), k_or i (by omega) k hk64 h0]
      have hin := k_in n hn i hi k hk h0
      rw [hor, Int.toNat_natCast, shift_and_one ht k hk64, shift_and_one ht (k + 2 ^ i) (by omega)]
      refine ⟨by omega, by omega, Int.natCast_nonneg _, fun hne => ⟨_, rfl, fun _ => ⟨k, hk, h0, fun e => hne (by rw [e])⟩, fun _ => rfl⟩, fun heq => ⟨hk, wI (by omega) (by omega), hnext fun ⟨_, hne⟩ => heq fun e => hne ?_⟩⟩
      revert e
      cases bit t k <;> cases bit t (k + 2 ^ i) <;> simp
    · refine ⟨hk, wI (by omega) (by omega), hnext fun ⟨h0, _⟩ => hz ?_⟩
      rw [Nat.testBit_eq_decide_div_mod_eq, h0]; simp
  · rintro e m ⟨e0, e1', e2', e9, e10, hall⟩
    unfold a57_0
    simp -implicitDefEqProofs only [vqa, Nat.reduceEqDiff, Nat.reduceAdd, reduceIte, Nat.reduceLeDiff, Nat.reduceBEq, Nat.reduceLT, Nat.reduceSub, Int.reduceLT, Int.reduceLE, Int.reduceEq, Int.reduceToNat, Nat.reduceMul, eq_self, implies_true, forall_const, e0, e1', e2', e9, e10]
    refine ⟨_, rfl, fun h => Bool.noConfusion h, fun ⟨j, h1, h2, h3⟩ => absurd (hall j h1 h2) h3⟩
end Go.Ab
