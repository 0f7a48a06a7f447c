/- The law CutTables. -/
import Derived.Test.YtiecnmojbdogfaaSaCut5
set_option linter.unusedSimpArgs false
set_option linter.unusedVariables false
namespace Go.Ab
open Go
def a3 : AC := (.seq (.ops [⟨(some 5), none, (.e (.box 5 0 (.t 1)))⟩, ⟨(some 8), none, (.v (.mv (.c (.bool false))))⟩]) (.seq (.ops [⟨(some 9), none, (.v (.mv (.c (.int .u64 0))))⟩]) (.seq (.seq (.ops [⟨(some 10), none, (.v (.load 1 false (.t 5)))⟩, ⟨(some 11), none, (.v (.bin .geq (.t 10) (.c (.int .i64 0))))⟩, ⟨(some 12), none, (.v (.mv (.t 11)))⟩, ⟨(some 13), (some (12, true)), (.v (.load 1 false (.t 5)))⟩, ⟨(some 14), (some (12, true)), (.v (.bin .lss (.t 13) (.c (.int .i64 6))))⟩, ⟨(some 15), none, (.v (.pick (.t 12) (.t 14) (.c (.bool false))))⟩]) (.cond (.t 15) (.ops [⟨(some 16), none, (.v (.mkfn 9 [(.t 5)]))⟩, ⟨(some 17), none, (.call (.c (.fn 8 [])) [(.c (.int .i64 6)), (.t 16)])⟩, ⟨(some 9), none, (.v (.mv (.t 17)))⟩]) .skip)) (.seq (.any [⟨(some 18), none, (.call (.c (.fn 10 [])) [])⟩, ⟨(some 19), none, (.v (.mv (.t 18)))⟩, ⟨(some 20), (some (19, true)), (.v (.load 1 false (.t 5)))⟩, ⟨(some 21), (some (19, true)), (.call (.c (.fn 11 [])) [(.t 20)])⟩, ⟨(some 22), (some (19, true)), (.v (.mv (.t 9)))⟩, ⟨(some 23), (some (19, true)), (.v (.bin .eql (.t 21) (.t 22)))⟩, ⟨(some 24), none, (.v (.pick (.t 19) (.t 23) (.c (.bool false))))⟩, ⟨(some 25), none, (.v (.mv (.t 24)))⟩, ⟨(some 26), (some (25, true)), (.v (.mv (.t 0)))⟩, ⟨(some 27), (some (25, true)), (.v (.load 1 false (.t 5)))⟩, ⟨(some 28), (some (25, true)), (.v (.mv (.t 3)))⟩, ⟨(some 29), (some (25, true)), (.call (.c (.fn 12 [])) [(.t 26), (.t 27), (.t 28)])⟩, ⟨(some 30), (some (25, true)), (.v (.mv (.t 0)))⟩, ⟨(some 31), (some (25, true)), (.v (.load 1 false (.t 5)))⟩, ⟨(some 32), (some (25, true)), (.v (.mv (.t 3)))⟩, ⟨(some 33), (some (25, true)), (.call (.c (.fn 13 [])) [(.t 30), (.t 31), (.t 32)])⟩, ⟨(some 34), (some (25, true)), (.v (.bin .eql (.t 29) (.t 33)))⟩, ⟨(some 35), none, (.v (.pick (.t 25) (.t 34) (.c (.bool false))))⟩, ⟨(some 36), none, (.v (.mv (.t 35)))⟩, ⟨(some 37), (some (36, true)), (.v (.mv (.t 0)))⟩, ⟨(some 38), (some (36, true)), (.v (.mv (.t 2)))⟩, ⟨(some 39), (some (36, true)), (.call (.c (.fn 15 [])) [(.t 37), (.t 38)])⟩, ⟨(some 40), (some (36, true)), (.v (.mv (.t 0)))⟩, ⟨(some 41), (some (36, true)), (.v (.mv (.t 2)))⟩, ⟨(some 42), (some (36, true)), (.call (.c (.fn 16 [])) [(.t 40), (.t 41)])⟩, ⟨(some 43), (some (36, true)), (.call (.c (.fn 14 [])) [(.t 39), (.t 42)])⟩, ⟨(some 44), none, (.v (.pick (.t 36) (.t 43) (.c (.bool false))))⟩, ⟨(some 8), none, (.v (.mv (.t 44)))⟩] [[], [0, 0], [1], [2, 1, 1], [1], [3, 4, 1], [1, 5], [6, 3], [7], [7], [7], [8, 9, 10, 7, 7], [7], [7], [7], [12, 13, 14, 11, 7], [11, 15, 7], [7, 16], [17, 15], [18], [18], [19, 20, 18, 18], [18], [18], [22, 23, 21, 18], [21, 24, 24, 18], [18, 25], [26, 25, 0, 1, 2, 3, 4, 5, 6, 7, 8, 9, 10, 11, 12, 13, 14, 15, 16, 17, 18, 19, 20, 21, 22, 23, 24, 25, 26]]) .ret))))
def r3 : List AI := [(.mv (.t 8))]
theorem f3 : Fn PP 3 4 a3 r3 := Fn.of (fn := Go.Proofs.Try.f3) (by kernel_rfl) (by kernel_rfl) (by kernel_rfl)
/-- The table of an input. -/
def VarT (t i : Int) : Prop := U64 t ∧ (i < 0 ∨ 6 ≤ i → t = 0) ∧ ∀ q : Nat, q < 6 → i = q → ∀ j, j < 64 → bit t j = j.testBit q
theorem VarT.eq {t s i : Int} (h : VarT t i) (k : VarT s i) : t = s := by
  by_cases e : i < 0 ∨ 6 ≤ i
  · rw [h.2.1 e, k.2.1 e]
  · exact u64_ext h.1 k.1 fun j hj => by rw [h.2.2 i.toNat (by omega) (by omega) j hj, k.2.2 i.toNat (by omega) (by omega) j hj]
theorem p3 (t i n : Int) (v : Bool) (ht : U64 t) : Pure PP 3 [.int .u64 t, .int .i64 i, .int .i64 n, .bool v] fun r => r = .bool true := by
  refine Fn.pure fmix f3 ?_
  unfold a3 r3
  rw [vSeq]
  refine seq_join (fun e m => ∃ V, e 0 = .int .u64 t ∧ e 2 = .int .i64 n ∧ e 3 = .bool v ∧ e 5 = .ptr 5 V 0 ∧ m 5 = .var V [.int .i64 i]) ?_ ?_
  · simp -implicitDefEqProofs only [vqa, Nat.reduceEqDiff, Nat.reduceAdd, reduceIte, Nat.reduceLeDiff, Nat.reduceBEq, Nat.reduceLT, Nat.reduceSub, Int.reduceLT, Int.reduceLE, Int.reduceEq, Int.reduceToNat, Nat.reduceMul, eq_self, implies_true, forall_const]
    exact ⟨_, rfl, rfl⟩
  rintro e m ⟨V, h0, h2, h3, h5, m5⟩
  rw [vSeq]
  refine seq_join (fun e m => e 0 = .int .u64 t ∧ e 2 = .int .i64 n ∧ e 3 = .bool v ∧ e 5 = .ptr 5 V 0 ∧ e 9 = .int .u64 0 ∧ m 5 = .var V [.int .i64 i]) ?_ ?_
  · simp -implicitDefEqProofs only [vqa, Nat.reduceEqDiff, Nat.reduceAdd, reduceIte, Nat.reduceLeDiff, Nat.reduceBEq, Nat.reduceLT, Nat.reduceSub, Int.reduceLT, Int.reduceLE, Int.reduceEq, Int.reduceToNat, Nat.reduceMul, eq_self, implies_true, forall_const, h0, h2, h3, h5, m5]
  clear h0 h2 h3 h5 m5 e m
  rintro e m ⟨h0, h2, h3, h5, h9, m5⟩
  rw [vSeq]
  refine seq_join (fun e m => e 0 = .int .u64 t ∧ e 2 = .int .i64 n ∧ e 3 = .bool v ∧ e 5 = .ptr 5 V 0 ∧ (∃ w, e 9 = .int .u64 w ∧ VarT w i) ∧ m 5 = .var V [.int .i64 i]) ?_ ?_
  · simp -implicitDefEqProofs only [vqa, Nat.reduceEqDiff, Nat.reduceAdd, reduceIte, Nat.reduceLeDiff, Nat.reduceBEq, Nat.reduceLT, Nat.reduceSub, Int.reduceLT, Int.reduceLE, Int.reduceEq, Int.reduceToNat, Nat.reduceMul, eq_self, implies_true, forall_const, h0, h2, h3, h5, h9, m5]
    refine ⟨fun c0 => ⟨fun c1 => ?_, fun c1 => ?_⟩, fun c0 => ?_⟩
    · obtain ⟨q, rfl⟩ : ∃ q : Nat, i = (q : Int) := ⟨i.toNat, by omega⟩
      refine (p8 1000 6 (by decide) (J := fun o => o = 5) (fun o ho => by subst ho; decide) (p9f 1000 (show q < 6 by omega) m5)).mono fun r m' ⟨⟨t', hr, ht', hb⟩, hm⟩ => ?_
      subst hr
      simp -implicitDefEqProofs only [vqa, Nat.reduceEqDiff, Nat.reduceAdd, reduceIte, Nat.reduceLeDiff, Nat.reduceBEq, Nat.reduceLT, Nat.reduceSub, Int.reduceLT, Int.reduceLE, Int.reduceEq, Int.reduceToNat, Nat.reduceMul, eq_self, implies_true, forall_const, h0, h2, h3, h5, h9, (hm 5 rfl).trans m5]
      exact ⟨t', rfl, ht', fun h => by omega, fun p hp e j hj => by
        obtain rfl : q = p := by omega
        rw [hb j hj]; simp [hj]⟩
    · exact ⟨0, rfl, ⟨by decide, by decide⟩, fun _ => rfl, fun q hq e => by omega⟩
    · exact ⟨0, rfl, ⟨by decide, by decide⟩, fun _ => rfl, fun q hq e => by omega⟩
  clear h0 h2 h3 h5 h9 m5 e m
  rintro e m ⟨h0, h2, h3, h5, ⟨w, h9, hw⟩, m5⟩
  rw [vSeq]
  refine vAny [0, 1, 2, 4, 3, 5, 6, 7, 8, 9, 10, 12, 13, 14, 11, 15, 16, 17, 18, 19, 20, 22, 23, 21, 24, 25, 26, 27] 28 allL (by kernel_rfl) (by kernel_rfl) ?_
  simp -implicitDefEqProofs only [vqa, Nat.reduceEqDiff, Nat.reduceAdd, reduceIte, Nat.reduceLeDiff, Nat.reduceBEq, Nat.reduceLT, Nat.reduceSub, Int.reduceLT, Int.reduceLE, Int.reduceEq, Int.reduceToNat, Nat.reduceMul, eq_self, implies_true, forall_const, h0, h2, h3, h5, h9, m5]
  refine CallW.sc p10 rfl trivial fun r hr => ⟨by subst hr; rfl, ?_⟩
  subst hr
  simp -implicitDefEqProofs only [vqa, Nat.reduceEqDiff, Nat.reduceAdd, reduceIte, Nat.reduceLeDiff, Nat.reduceBEq, Nat.reduceLT, Nat.reduceSub, Int.reduceLT, Int.reduceLE, Int.reduceEq, Int.reduceToNat, Nat.reduceMul, eq_self, implies_true, forall_const, h0, h2, h3, h5, h9, m5]
  refine CallW.sc (p11 i) rfl ⟨trivial, trivial⟩ fun r ⟨w', hr, hw'⟩ => ⟨by subst hr; rfl, ?_⟩
  obtain rfl : w = w' := hw.eq hw'
  subst hr
  simp -implicitDefEqProofs only [vqa, Nat.reduceEqDiff, Nat.reduceAdd, reduceIte, Nat.reduceLeDiff, Nat.reduceBEq, Nat.reduceLT, Nat.reduceSub, Int.reduceLT, Int.reduceLE, Int.reduceEq, Int.reduceToNat, Nat.reduceMul, eq_self, implies_true, forall_const, h0, h2, h3, h5, h9, m5]
  refine CallW.sc (p12 t i v ht) rfl ⟨trivial, trivial, trivial, trivial⟩ fun r ⟨x, hr, hx⟩ => ⟨by subst hr; rfl, ?_⟩
  subst hr
  simp -implicitDefEqProofs only [vqa, Nat.reduceEqDiff, Nat.reduceAdd, reduceIte, Nat.reduceLeDiff, Nat.reduceBEq, Nat.reduceLT, Nat.reduceSub, Int.reduceLT, Int.reduceLE, Int.reduceEq, Int.reduceToNat, Nat.reduceMul, eq_self, implies_true, forall_const, h0, h2, h3, h5, h9, m5]
  refine CallW.sc (p13 t i v ht) rfl ⟨trivial, trivial, trivial, trivial⟩ fun r ⟨y, hr, hy⟩ => ⟨by subst hr; rfl, ?_⟩
  obtain rfl : x = y := hx.eq hy
  subst hr
  simp -implicitDefEqProofs only [vqa, Nat.reduceEqDiff, Nat.reduceAdd, reduceIte, Nat.reduceLeDiff, Nat.reduceBEq, Nat.reduceLT, Nat.reduceSub, Int.reduceLT, Int.reduceLE, Int.reduceEq, Int.reduceToNat, Nat.reduceMul, eq_self, implies_true, forall_const, h0, h2, h3, h5, h9, m5]
  refine CallW.fz (p15 t n ht) rfl rfl fun r ⟨f, hr, hf⟩ => ⟨by subst hr; rfl, ?_⟩
  subst hr
  simp -implicitDefEqProofs only [vqa, Nat.reduceEqDiff, Nat.reduceAdd, reduceIte, Nat.reduceLeDiff, Nat.reduceBEq, Nat.reduceLT, Nat.reduceSub, Int.reduceLT, Int.reduceLE, Int.reduceEq, Int.reduceToNat, Nat.reduceMul, eq_self, implies_true, forall_const, h0, h2, h3, h5, h9, m5]
  refine CallW.fz (p16 t n ht) rfl rfl fun r ⟨g, hr, hg⟩ => ⟨by subst hr; rfl, ?_⟩
  subst hr
  simp -implicitDefEqProofs only [vqa, Nat.reduceEqDiff, Nat.reduceAdd, reduceIte, Nat.reduceLeDiff, Nat.reduceBEq, Nat.reduceLT, Nat.reduceSub, Int.reduceLT, Int.reduceLE, Int.reduceEq, Int.reduceToNat, Nat.reduceMul, eq_self, implies_true, forall_const, h0, h2, h3, h5, h9, m5]
  have hl : (depL (depB t (six n)) (six n)).length ≤ 1048576 := Nat.le_trans (depL_le _ _) (Nat.le_trans (six_le n) (by decide))
  have hx : ∀ k, k < (depL (depB t (six n)) (six n)).length → ((depL (depB t (six n)) (six n)).map ivc).getD k .undef = .int .i64 ((((depL (depB t (six n)) (six n)).getD k 0 : Nat) : Int)) := fun k hk => by
    simp only [List.getD_eq_getElem?_getD, List.getElem?_map, List.getElem?_eq_getElem hk, Option.map_some, Option.getD_some]
    rfl
  refine CallW.sc (p14 _ _ (fun k => (((depL (depB t (six n)) (six n)).getD k 0 : Nat) : Int)) (fun k => (((depL (depB t (six n)) (six n)).getD k 0 : Nat) : Int)) f g (fun k hk => (hf k hk).trans (hx k hk)) (fun k hk => (hg k hk).trans (hx k hk)) hl hl) rfl ⟨trivial, trivial, trivial⟩ fun r ⟨b, hr, hb⟩ => ⟨by subst hr; rfl, ?_⟩
  obtain rfl : b = true := hb.2 ⟨rfl, fun _ _ => rfl⟩
  subst hr
  simp -implicitDefEqProofs only [vqa, Nat.reduceEqDiff, Nat.reduceAdd, reduceIte, Nat.reduceLeDiff, Nat.reduceBEq, Nat.reduceLT, Nat.reduceSub, Int.reduceLT, Int.reduceLE, Int.reduceEq, Int.reduceToNat, Nat.reduceMul, eq_self, implies_true, forall_const, h0, h2, h3, h5, h9, m5]
end Go.Ab
