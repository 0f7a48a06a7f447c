/- Walks: asked. -/
import Derived.Test.YtodncnlnadgkhacSaMkW
import Derived.Test.YtodncnlnadgkhacSaTab
import Derived.Test.YtodncnlnadgkhacSaMakO
import Derived.Test.YtodncnlnadgkhacSaMakX
set_option linter.unusedSimpArgs false
set_option linter.unusedVariables false
namespace Go.Ab
open Go
/-- A literal that was asked for: what has become of the maker, and what it is worth. -/
structure Got (M : Mak) (p q : Nat → Bool) (val : Bool) (M' : Mak) (l : Int) : Prop where
  ms : MS M M' 21 true
  bef : M'.bef l
  val : M'.lv p q l = val
theorem MS.room {M M' : Mak} {c : Nat} {d : Bool} (h : MS M M' c d) (hn : M.n + c ≤ 4000) : d = true := by
  cases d with
  | true => rfl
  | false => have := (h.full rfl).2; omega
theorem and_got {M : Mak} (ok : M.Ok) (hg : M.Good) (hn : M.n + 21 ≤ 4000) (p q : Nat → Bool) {a b : Int} (ha : M.bef a) (hb : M.bef b) : Got M p q (M.lv p q a && M.lv p q b) (M.andF a b).2 (M.andF a b).1 := by
  have e : M.andF a b = ((M.and a b).1, (M.and a b).2.2) := if_pos ⟨ha, hb⟩
  obtain ⟨s, t⟩ := and_ms ok hg ha hb
  have hd := s.room (by omega)
  obtain ⟨t1, t2⟩ := t hd
  rw [e]
  exact ⟨(s.bool hd).mono (by decide), t1, t2 p q⟩
theorem or_got {M : Mak} (ok : M.Ok) (hg : M.Good) (hn : M.n + 21 ≤ 4000) (p q : Nat → Bool) {a b : Int} (ha : M.bef a) (hb : M.bef b) : Got M p q (M.lv p q a || M.lv p q b) (M.orF a b).2 (M.orF a b).1 := by
  have e : M.orF a b = (if (M.and (notL a) (notL b)).2.1 = true then notL (M.and (notL a) (notL b)).1 else 0, (M.and (notL a) (notL b)).2.2) := if_pos ⟨ha, hb⟩
  obtain ⟨s, t⟩ := and_ms ok hg (bef_not ok ha) (bef_not ok hb)
  have hd := s.room (by omega)
  obtain ⟨t1, t2⟩ := t hd
  rw [e]
  simp only [if_pos hd]
  exact ⟨(s.bool hd).mono (by decide), bef_not s.ok t1, by rw [lv_not s.ok p q t1, t2, lv_not ok p q ha, lv_not ok p q hb]; cases M.lv p q a <;> cases M.lv p q b <;> rfl⟩
theorem xor_got {M : Mak} (ok : M.Ok) (hg : M.Good) (hn : M.n + 21 ≤ 4000) (p q : Nat → Bool) {a b : Int} (ha : M.bef a) (hb : M.bef b) : Got M p q (!(M.lv p q a == M.lv p q b)) (M.xorF a b).2 (M.xorF a b).1 := by
  have e : M.xorF a b = ((M.pair a (notL b) (notL a) b).1, (M.pair a (notL b) (notL a) b).2.2) := if_pos ⟨ha, hb⟩
  obtain ⟨s, t, w⟩ := pair_ms ok hg ha (bef_not ok hb) (bef_not ok ha) hb
  have hd := s.room (by omega)
  rw [e]
  exact ⟨(s.bool hd).mono (by decide), t, by rw [w hd, lv_not ok p q ha, lv_not ok p q hb]; cases M.lv p q a <;> cases M.lv p q b <;> rfl⟩
theorem mux_got {M : Mak} (ok : M.Ok) (hg : M.Good) (hn : M.n + 21 ≤ 4000) (p q : Nat → Bool) {a b c : Int} (ha : M.bef a) (hb : M.bef b) (hc : M.bef c) : Got M p q ((M.lv p q a && M.lv p q b) || (!M.lv p q a && M.lv p q c)) (M.muxF a b c).2 (M.muxF a b c).1 := by
  have e : M.muxF a b c = ((M.pair a b (notL a) c).1, (M.pair a b (notL a) c).2.2) := if_pos ⟨ha, hb, hc⟩
  obtain ⟨s, t, w⟩ := pair_ms ok hg ha hb (bef_not ok ha) hc
  have hd := s.room (by omega)
  rw [e]
  exact ⟨(s.bool hd).mono (by decide), t, by rw [w hd, lv_not ok p q ha]⟩
theorem or_row (f : Nat → Bool) (i : Nat) (hi : i < 3) (h : f i = true) : bitop .or .i64 ((rowB f i : Nat) : Int) (IntKind.i64.wrap (1 * 2 ^ min i 64)) = ((rowB f (i + 1) : Nat) : Int) := by
  rcases (show i = 0 ∨ i = 1 ∨ i = 2 by omega) with rfl | rfl | rfl <;> cases h0 : f 0 <;> cases h1 : f 1 <;> simp_all [rowB] <;> decide
def b14_0 (b : Nat) : AC := (.seq (.ops [⟨(some 100), none, (.v (.bin .lss (.t 99) (.c (.int .i64 3))))⟩]) (.seq (.cond (.t 100) .skip (.exit 1)) (.seq (.block 2 (.seq (.ops [⟨(some 101), none, (.v (.mv (.t 99)))⟩, ⟨(some 102), none, (.v (.avx 3 (.t 98) (.t 99)))⟩, ⟨(some 11), none, (.v (.mv (.t 101)))⟩, ⟨(some 12), none, (.v (.mv (.t 102)))⟩]) (.seq (.ops [⟨(some 103), none, (.v (.mv (.t 12)))⟩]) (.cond (.t 103) (.ops [⟨(some 104), none, (.v (.mv (.t 10)))⟩, ⟨(some 105), none, (.v (.mv (.t 11)))⟩, ⟨(some 106), none, (.v (.bin .shl (.c (.int .i64 1)) (.t 105)))⟩, ⟨(some 107), none, (.v (.bin .or (.t 104) (.t 106)))⟩, ⟨(some 10), none, (.v (.mv (.t 107)))⟩]) .skip)))) (.ops [⟨(some 108), none, (.v (.bin .add (.t 99) (.c (.int .i64 1))))⟩, ⟨(some 99), none, (.v (.mv (.t 108)))⟩]))))
def b14 (b : Nat) : AC := (.seq (.ops [⟨(some 5), none, (.e (.box (b + 5) 0 (.t 1)))⟩, ⟨(some 6), none, (.e (.box (b + 6) 0 (.t 2)))⟩, ⟨(some 7), none, (.e (.box (b + 7) 0 (.t 3)))⟩, ⟨(some 8), none, (.v (.mv (.c (.int .i64 0))))⟩, ⟨(some 9), none, (.v (.mv (.c (.bool false))))⟩]) (.seq (.seq (.ops [⟨(some 13), none, (.v (.fld 0 (.t 5)))⟩, ⟨(some 14), none, (.v (.load 1 false (.t 13)))⟩, ⟨(some 15), none, (.call (.c (.fn 6 [])) [(.t 14), (.c (.int .i64 6))])⟩]) (.block 0 (.seq (.ops [⟨(some 17), none, (.v (.bin .eql (.t 15) (.c (.int .i64 0))))⟩, ⟨(some 16), none, (.v (.mv (.t 17)))⟩]) (.cond (.t 16) (.seq (.any [⟨(some 18), none, (.v (.mv (.t 0)))⟩, ⟨(some 19), none, (.v (.aidx 1 3 (.t 6) (.c (.int .i64 0))))⟩, ⟨(some 20), none, (.v (.load 1 false (.t 19)))⟩, ⟨(some 21), none, (.v (.aidx 1 3 (.t 6) (.c (.int .i64 1))))⟩, ⟨(some 22), none, (.v (.load 1 false (.t 21)))⟩, ⟨(some 23), none, (.call (.c (.fn 44 [])) [(.t 22)])⟩, ⟨(some 24), none, (.call (.c (.fn 24 [])) [(.t 18), (.t 20), (.t 23)])⟩, ⟨(some 25), none, (.v (.aidx 1 3 (.t 7) (.c (.int .i64 0))))⟩, ⟨(some 26), none, (.v (.load 1 false (.t 25)))⟩, ⟨(some 27), none, (.v (.mv (.t 26)))⟩, ⟨(some 28), (some (27, true)), (.v (.aidx 1 3 (.t 7) (.c (.int .i64 1))))⟩, ⟨(some 29), (some (27, true)), (.v (.load 1 false (.t 28)))⟩, ⟨(some 30), (some (27, true)), (.v (.not (.t 29)))⟩, ⟨(some 31), none, (.v (.pick (.t 27) (.t 30) (.c (.bool false))))⟩, ⟨(some 8), none, (.v (.mv (.t 24)))⟩, ⟨(some 9), none, (.v (.mv (.t 31)))⟩] [[], [], [1], [], [3], [4], [0, 2, 5, 5], [], [7], [8, 6], [9], [10, 9], [11, 9], [9, 12], [6, 9, 0, 1, 2, 3, 4, 5, 6], [13, 14, 0, 1, 2, 3, 4, 5, 6, 7, 8, 9, 10, 11, 12, 13, 14]]) .ret) (.seq (.ops [⟨(some 33), none, (.v (.bin .eql (.t 15) (.c (.int .i64 1))))⟩, ⟨(some 32), none, (.v (.mv (.t 33)))⟩]) (.cond (.t 32) (.seq (.any [⟨(some 34), none, (.v (.mv (.t 0)))⟩, ⟨(some 35), none, (.v (.aidx 1 3 (.t 6) (.c (.int .i64 0))))⟩, ⟨(some 36), none, (.v (.load 1 false (.t 35)))⟩, ⟨(some 37), none, (.v (.aidx 1 3 (.t 6) (.c (.int .i64 1))))⟩, ⟨(some 38), none, (.v (.load 1 false (.t 37)))⟩, ⟨(some 39), none, (.call (.c (.fn 24 [])) [(.t 34), (.t 36), (.t 38)])⟩, ⟨(some 40), none, (.v (.aidx 1 3 (.t 7) (.c (.int .i64 0))))⟩, ⟨(some 41), none, (.v (.load 1 false (.t 40)))⟩, ⟨(some 42), none, (.v (.mv (.t 41)))⟩, ⟨(some 43), (some (42, true)), (.v (.aidx 1 3 (.t 7) (.c (.int .i64 1))))⟩, ⟨(some 44), (some (42, true)), (.v (.load 1 false (.t 43)))⟩, ⟨(some 45), none, (.v (.pick (.t 42) (.t 44) (.c (.bool false))))⟩, ⟨(some 8), none, (.v (.mv (.t 39)))⟩, ⟨(some 9), none, (.v (.mv (.t 45)))⟩] [[], [], [1], [], [3], [0, 2, 4], [], [6], [7, 5], [8], [9, 8], [8, 10], [5, 8, 0, 1, 2, 3, 4, 5], [11, 12, 0, 1, 2, 3, 4, 5, 6, 7, 8, 9, 10, 11, 12]]) .ret) (.seq (.ops [⟨(some 47), none, (.v (.bin .eql (.t 15) (.c (.int .i64 2))))⟩, ⟨(some 46), none, (.v (.mv (.t 47)))⟩]) (.cond (.t 46) (.seq (.any [⟨(some 48), none, (.v (.mv (.t 0)))⟩, ⟨(some 49), none, (.v (.aidx 1 3 (.t 6) (.c (.int .i64 0))))⟩, ⟨(some 50), none, (.v (.load 1 false (.t 49)))⟩, ⟨(some 51), none, (.v (.aidx 1 3 (.t 6) (.c (.int .i64 1))))⟩, ⟨(some 52), none, (.v (.load 1 false (.t 51)))⟩, ⟨(some 53), none, (.call (.c (.fn 25 [])) [(.t 48), (.t 50), (.t 52)])⟩, ⟨(some 54), none, (.v (.aidx 1 3 (.t 7) (.c (.int .i64 0))))⟩, ⟨(some 55), none, (.v (.load 1 false (.t 54)))⟩, ⟨(some 56), none, (.v (.mv (.t 55)))⟩, ⟨(some 57), (some (56, false)), (.v (.aidx 1 3 (.t 7) (.c (.int .i64 1))))⟩, ⟨(some 58), (some (56, false)), (.v (.load 1 false (.t 57)))⟩, ⟨(some 59), none, (.v (.pick (.t 56) (.c (.bool true)) (.t 58)))⟩, ⟨(some 8), none, (.v (.mv (.t 53)))⟩, ⟨(some 9), none, (.v (.mv (.t 59)))⟩] [[], [], [1], [], [3], [0, 2, 4], [], [6], [7, 5], [8], [9, 8], [8, 10], [5, 8, 0, 1, 2, 3, 4, 5], [11, 12, 0, 1, 2, 3, 4, 5, 6, 7, 8, 9, 10, 11, 12]]) .ret) (.seq (.ops [⟨(some 61), none, (.v (.bin .eql (.t 15) (.c (.int .i64 3))))⟩, ⟨(some 60), none, (.v (.mv (.t 61)))⟩]) (.cond (.t 60) (.seq (.any [⟨(some 62), none, (.v (.mv (.t 0)))⟩, ⟨(some 63), none, (.v (.aidx 1 3 (.t 6) (.c (.int .i64 0))))⟩, ⟨(some 64), none, (.v (.load 1 false (.t 63)))⟩, ⟨(some 65), none, (.v (.aidx 1 3 (.t 6) (.c (.int .i64 1))))⟩, ⟨(some 66), none, (.v (.load 1 false (.t 65)))⟩, ⟨(some 67), none, (.call (.c (.fn 26 [])) [(.t 62), (.t 64), (.t 66)])⟩, ⟨(some 68), none, (.v (.aidx 1 3 (.t 7) (.c (.int .i64 0))))⟩, ⟨(some 69), none, (.v (.load 1 false (.t 68)))⟩, ⟨(some 70), none, (.v (.aidx 1 3 (.t 7) (.c (.int .i64 1))))⟩, ⟨(some 71), none, (.v (.load 1 false (.t 70)))⟩, ⟨(some 72), none, (.v (.beq true (.t 69) (.t 71)))⟩, ⟨(some 8), none, (.v (.mv (.t 67)))⟩, ⟨(some 9), none, (.v (.mv (.t 72)))⟩] [[], [], [1], [], [3], [0, 2, 4], [], [6], [], [8], [7, 9], [5, 5, 0, 1, 2, 3, 4, 5], [10, 11, 0, 1, 2, 3, 4, 5, 6, 7, 8, 9, 10, 11]]) .ret) (.seq (.ops [⟨(some 74), none, (.v (.bin .eql (.t 15) (.c (.int .i64 4))))⟩, ⟨(some 73), none, (.v (.mv (.t 74)))⟩]) (.cond (.t 73) (.seq (.any [⟨(some 75), none, (.v (.mv (.t 0)))⟩, ⟨(some 76), none, (.v (.aidx 1 3 (.t 6) (.c (.int .i64 0))))⟩, ⟨(some 77), none, (.v (.load 1 false (.t 76)))⟩, ⟨(some 78), none, (.v (.aidx 1 3 (.t 6) (.c (.int .i64 1))))⟩, ⟨(some 79), none, (.v (.load 1 false (.t 78)))⟩, ⟨(some 80), none, (.v (.aidx 1 3 (.t 6) (.c (.int .i64 2))))⟩, ⟨(some 81), none, (.v (.load 1 false (.t 80)))⟩, ⟨(some 82), none, (.call (.c (.fn 27 [])) [(.t 75), (.t 77), (.t 79), (.t 81)])⟩, ⟨(some 83), none, (.v (.aidx 1 3 (.t 7) (.c (.int .i64 0))))⟩, ⟨(some 84), none, (.v (.load 1 false (.t 83)))⟩, ⟨(some 85), none, (.v (.mv (.t 84)))⟩, ⟨(some 86), (some (85, true)), (.v (.aidx 1 3 (.t 7) (.c (.int .i64 1))))⟩, ⟨(some 87), (some (85, true)), (.v (.load 1 false (.t 86)))⟩, ⟨(some 88), none, (.v (.pick (.t 85) (.t 87) (.c (.bool false))))⟩, ⟨(some 89), none, (.v (.mv (.t 88)))⟩, ⟨(some 90), (some (89, false)), (.v (.aidx 1 3 (.t 7) (.c (.int .i64 0))))⟩, ⟨(some 91), (some (89, false)), (.v (.load 1 false (.t 90)))⟩, ⟨(some 92), (some (89, false)), (.v (.not (.t 91)))⟩, ⟨(some 93), (some (89, false)), (.v (.mv (.t 92)))⟩, ⟨(some 94), (some (93, true)), (.v (.aidx 1 3 (.t 7) (.c (.int .i64 2))))⟩, ⟨(some 95), (some (93, true)), (.v (.load 1 false (.t 94)))⟩, ⟨(some 96), (some (89, false)), (.v (.pick (.t 93) (.t 95) (.c (.bool false))))⟩, ⟨(some 97), none, (.v (.pick (.t 89) (.c (.bool true)) (.t 96)))⟩, ⟨(some 8), none, (.v (.mv (.t 82)))⟩, ⟨(some 9), none, (.v (.mv (.t 97)))⟩] [[], [], [1], [], [3], [], [5], [0, 2, 4, 6], [], [8], [9, 7], [10], [11, 10], [10, 12], [13, 10], [14], [15, 14], [16, 14], [17, 14, 14], [18], [19, 18], [18, 20, 14], [14, 21], [7, 18, 0, 1, 2, 3, 4, 5, 6, 7], [22, 23, 0, 1, 2, 3, 4, 5, 6, 7, 8, 9, 10, 11, 12, 13, 14, 15, 16, 17, 18, 19, 20, 21, 22, 23]]) .ret) .skip)))))))))))) (.seq (.ops [⟨(some 10), none, (.v (.mv (.c (.int .i64 0))))⟩]) (.seq (.seq (.ops [⟨(some 98), none, (.v (.load 3 true (.t 7)))⟩, ⟨(some 99), none, (.v (.mv (.c (.int .i64 0))))⟩]) (.block 1 (.loop (b14_0 b)))) (.seq (.any [⟨(some 109), none, (.v (.mv (.t 0)))⟩, ⟨(some 110), none, (.v (.fld 4 (.t 5)))⟩, ⟨(some 111), none, (.v (.load 1 false (.t 110)))⟩, ⟨(some 112), none, (.e (.slca 3 (.t 6)))⟩, ⟨(some 113), none, (.call (.c (.fn 28 [])) [(.t 109), (.t 111), (.t 112)])⟩, ⟨(some 114), none, (.v (.fld 4 (.t 5)))⟩, ⟨(some 115), none, (.v (.load 1 false (.t 114)))⟩, ⟨(some 116), none, (.v (.mv (.t 10)))⟩, ⟨(some 117), none, (.v (.bin .shr (.t 115) (.t 116)))⟩, ⟨(some 118), none, (.v (.bin .and (.t 117) (.c (.int .u64 1))))⟩, ⟨(some 119), none, (.v (.bin .eql (.t 118) (.c (.int .u64 1))))⟩, ⟨(some 8), none, (.v (.mv (.t 113)))⟩, ⟨(some 9), none, (.v (.mv (.t 119)))⟩] [[], [], [1], [], [0, 2, 3], [], [5], [], [6, 7], [8], [9], [4, 4, 0, 1, 2, 3, 4], [10, 11, 0, 1, 2, 3, 4, 5, 6, 7, 8, 9, 10, 11]]) .ret)))))
def q14 : List AI := [(.mv (.t 8)), (.mv (.t 9))]
theorem g14 (b : Nat) : Fn PP 14 4 (b14 b) q14 := Fn.ofB b (fn := Go.Proofs.Try.f14) (by kernel_rfl) (by kernel_rfl) (by kernel_rfl)
theorem p14 (b : Nat) {mem : Mem} {o v : Nat} {fi fr : Nat → AV} {M : Mak} {S : Nat → Prop} (h : MkA mem o v fi fr M S) (ok : M.Ok) (hg : M.Good) (hb : ∀ i, S i → i < b) (hn : M.n + 21 ≤ 4000) (p q : Nat → Bool) (w a0 a1 a2 t l0 l1 l2 : Int) (ht : U64 t) (x0 : M.bef l0) (x1 : M.bef l1) (x2 : M.bef l2) :
    CallW PP 14 [.ptr o v 0, .agg [.int .i64 w, .int .i64 a0, .int .i64 a1, .int .i64 a2, .int .u64 t], .agg [.int .i64 l0, .int .i64 l1, .int .i64 l2], .agg [.bool (M.lv p q l0), .bool (M.lv p q l1), .bool (M.lv p q l2)]] mem
      fun r m => ∃ M' l c, r = .tup [.int .i64 l, .bool c] ∧ Got M p q c M' l ∧ MkA m o v fi fr M' (Ext S b (b + 30000)) ∧ Frame S b mem m := by
  have so : S o := by obtain ⟨_, _, _, _, _, _, _, so, _⟩ := h; exact so
  have hob := hb o so
  refine Fn.call fmix (g14 b) ?_
  unfold b14 q14
  simp -implicitDefEqProofs only [vqa, Nat.reduceEqDiff, Nat.reduceAdd, reduceIte, Nat.reduceLeDiff, Nat.reduceBEq, Nat.reduceLT, Nat.reduceSub, Int.reduceLT, Int.reduceLE, Int.reduceEq, Int.reduceToNat, Nat.reduceMul, eq_self, implies_true, forall_const]
  refine CallW.sc (p6g w 6 (by decide) (by decide)) rfl ⟨trivial, trivial, trivial⟩ fun r ⟨j, hr, j1, j2⟩ => ⟨by subst hr; rfl, ?_⟩
  subst hr
  simp -implicitDefEqProofs only [vqa, Nat.reduceEqDiff, Nat.reduceAdd, reduceIte, Nat.reduceLeDiff, Nat.reduceBEq, Nat.reduceLT, Nat.reduceSub, Int.reduceLT, Int.reduceLE, Int.reduceEq, Int.reduceToNat, Nat.reduceMul, eq_self, implies_true, forall_const]
  generalize hv5 : (mem (b + 5)).ver + 1 = V5
  generalize hv6 : (mem (b + 6)).ver + 1 = V6
  generalize hv7 : (mem (b + 7)).ver + 1 = V7
  generalize hmB : (Mem.set (b + 7) (AO.var V7 [AV.bool (M.lv p q l0), AV.bool (M.lv p q l1), AV.bool (M.lv p q l2)]) (Mem.set (b + 6) (AO.var V6 [AV.int IntKind.i64 l0, AV.int IntKind.i64 l1, AV.int IntKind.i64 l2]) (Mem.set (b + 5) (AO.var V5 [AV.int IntKind.i64 w, AV.int IntKind.i64 a0, AV.int IntKind.i64 a1, AV.int IntKind.i64 a2, AV.int IntKind.u64 t]) mem))) = mB
  have hS : ∀ k, ¬ S (b + k) := fun k hk => by have := hb _ hk; omega
  have m5 : mB (b + 5) = .var V5 [AV.int IntKind.i64 w, AV.int IntKind.i64 a0, AV.int IntKind.i64 a1, AV.int IntKind.i64 a2, AV.int IntKind.u64 t] := by
    rw [← hmB, set_ne (by omega), set_ne (by omega), set_same]
  have m6 : mB (b + 6) = .var V6 [AV.int IntKind.i64 l0, AV.int IntKind.i64 l1, AV.int IntKind.i64 l2] := by
    rw [← hmB, set_ne (by omega), set_same]
  have m7 : mB (b + 7) = .var V7 [AV.bool (M.lv p q l0), AV.bool (M.lv p q l1), AV.bool (M.lv p q l2)] := by
    rw [← hmB, set_same]
  have hB : MkA mB o v fi fr M S := by rw [← hmB]; exact ((h.setOut (hS 5)).setOut (hS 6)).setOut (hS 7)
  have hF0 : ∀ i, i < b → mB i = mem i := fun i hi => by rw [← hmB, set_ne (by omega), set_ne (by omega), set_ne (by omega)]
  have hbB : ∀ i, S i → i < b + 1000 := fun i hi => by have := hb i hi; omega
  clear hmB hv5 hv6 hv7
  have ext : ∀ k, k ≤ 20000 → ∀ i, Ext S (b + 1000) (b + 1000 + k) i → Ext S b (b + 30000) i := fun k hk i hi => hi.elim .inl fun hi => .inr ⟨by omega, by omega⟩
  have frm : ∀ {m' : Mem}, Frame S (b + 1000) mB m' → Frame S b mem m' := fun hF i hi hs => (hF i (by omega) hs).trans (hF0 i hi)
  refine ⟨fun h0 => ?_, fun h0 => ⟨fun h1 => ?_, fun h1 => ⟨fun h2 => ?_, fun h2 => ⟨fun h3 => ?_, fun h3 => ⟨fun h4 => ?_, fun h4 => ?_⟩⟩⟩⟩⟩
  · have g := and_got ok hg hn p q x0 (bef_not ok x1)
    refine vAny [0, 1, 2, 3, 4, 7, 8, 5, 6, 9, 10, 11, 12, 13, 14, 15] 16 (twoL (b + 6) (b + 7)) (by kernel_rfl) (by kernel_rfl) ?_
    simp -implicitDefEqProofs only [vqa, Nat.reduceEqDiff, Nat.reduceAdd, reduceIte, Nat.reduceLeDiff, Nat.reduceBEq, Nat.reduceLT, Nat.reduceSub, Int.reduceLT, Int.reduceLE, Int.reduceEq, Int.reduceToNat, Nat.reduceMul, eq_self, implies_true, forall_const, restr_two1, restr_two2, agree_two, m6, m7]
    refine CallW.sc (p44 l1) rfl ⟨trivial, trivial⟩ fun r hr => ⟨by subst hr; rfl, ?_⟩
    subst hr
    simp -implicitDefEqProofs only [vqa, Nat.reduceEqDiff, Nat.reduceAdd, reduceIte, Nat.reduceLeDiff, Nat.reduceBEq, Nat.reduceLT, Nat.reduceSub, Int.reduceLT, Int.reduceLE, Int.reduceEq, Int.reduceToNat, Nat.reduceMul, eq_self, implies_true, forall_const, restr_two1, restr_two2, agree_two, m6, m7]
    refine (p24 (b + 1000) hB ok hbB l0 (notL l1)).mono fun r m2 ⟨hr, hM, hF⟩ => ?_
    subst hr
    have k6 := (hF (b + 6) (by omega) (hS 6)).trans m6
    have k7 := (hF (b + 7) (by omega) (hS 7)).trans m7
    cases hv0 : M.lv p q l0 <;> simp -implicitDefEqProofs only [vqa, Nat.reduceEqDiff, Nat.reduceAdd, reduceIte, Nat.reduceLeDiff, Nat.reduceBEq, Nat.reduceLT, Nat.reduceSub, Int.reduceLT, Int.reduceLE, Int.reduceEq, Int.reduceToNat, Nat.reduceMul, eq_self, implies_true, forall_const, restr_two1, restr_two2, agree_two, k6, k7, m6, m7, hv0]
    · exact ⟨_, _, _, rfl, ⟨g.ms, g.bef, by rw [g.val, lv_not ok p q x1, hv0]; rfl⟩, hM.wide (ext 200 (by decide)), frm hF⟩
    · exact ⟨_, _, _, rfl, ⟨g.ms, g.bef, by rw [g.val, lv_not ok p q x1, hv0]; rfl⟩, hM.wide (ext 200 (by decide)), frm hF⟩
  · have g := and_got ok hg hn p q x0 x1
    refine vAny [0, 1, 2, 3, 4, 6, 7, 5, 8, 9, 10, 11, 12, 13] 14 (twoL (b + 6) (b + 7)) (by kernel_rfl) (by kernel_rfl) ?_
    simp -implicitDefEqProofs only [vqa, Nat.reduceEqDiff, Nat.reduceAdd, reduceIte, Nat.reduceLeDiff, Nat.reduceBEq, Nat.reduceLT, Nat.reduceSub, Int.reduceLT, Int.reduceLE, Int.reduceEq, Int.reduceToNat, Nat.reduceMul, eq_self, implies_true, forall_const, restr_two1, restr_two2, agree_two, m6, m7]
    refine (p24 (b + 1000) hB ok hbB l0 l1).mono fun r m2 ⟨hr, hM, hF⟩ => ?_
    subst hr
    have k6 := (hF (b + 6) (by omega) (hS 6)).trans m6
    have k7 := (hF (b + 7) (by omega) (hS 7)).trans m7
    cases hv0 : M.lv p q l0 <;> simp -implicitDefEqProofs only [vqa, Nat.reduceEqDiff, Nat.reduceAdd, reduceIte, Nat.reduceLeDiff, Nat.reduceBEq, Nat.reduceLT, Nat.reduceSub, Int.reduceLT, Int.reduceLE, Int.reduceEq, Int.reduceToNat, Nat.reduceMul, eq_self, implies_true, forall_const, restr_two1, restr_two2, agree_two, k6, k7, m6, m7, hv0]
    · exact ⟨_, _, _, rfl, ⟨g.ms, g.bef, by rw [g.val, hv0]; rfl⟩, hM.wide (ext 200 (by decide)), frm hF⟩
    · exact ⟨_, _, _, rfl, ⟨g.ms, g.bef, by rw [g.val, hv0]; rfl⟩, hM.wide (ext 200 (by decide)), frm hF⟩
  · have g := or_got ok hg hn p q x0 x1
    refine vAny [0, 1, 2, 3, 4, 6, 7, 5, 8, 9, 10, 11, 12, 13] 14 (twoL (b + 6) (b + 7)) (by kernel_rfl) (by kernel_rfl) ?_
    simp -implicitDefEqProofs only [vqa, Nat.reduceEqDiff, Nat.reduceAdd, reduceIte, Nat.reduceLeDiff, Nat.reduceBEq, Nat.reduceLT, Nat.reduceSub, Int.reduceLT, Int.reduceLE, Int.reduceEq, Int.reduceToNat, Nat.reduceMul, eq_self, implies_true, forall_const, restr_two1, restr_two2, agree_two, m6, m7]
    refine (p25 (b + 1000) hB ok hbB l0 l1).mono fun r m2 ⟨hr, hM, hF⟩ => ?_
    subst hr
    have k6 := (hF (b + 6) (by omega) (hS 6)).trans m6
    have k7 := (hF (b + 7) (by omega) (hS 7)).trans m7
    cases hv0 : M.lv p q l0 <;> simp -implicitDefEqProofs only [vqa, Nat.reduceEqDiff, Nat.reduceAdd, reduceIte, Nat.reduceLeDiff, Nat.reduceBEq, Nat.reduceLT, Nat.reduceSub, Int.reduceLT, Int.reduceLE, Int.reduceEq, Int.reduceToNat, Nat.reduceMul, eq_self, implies_true, forall_const, restr_two1, restr_two2, agree_two, k6, k7, m6, m7, hv0]
    · exact ⟨_, _, _, rfl, ⟨g.ms, g.bef, by rw [g.val, hv0]; rfl⟩, hM.wide (ext 200 (by decide)), frm hF⟩
    · exact ⟨_, _, _, rfl, ⟨g.ms, g.bef, by rw [g.val, hv0]; rfl⟩, hM.wide (ext 200 (by decide)), frm hF⟩
  · have g := xor_got ok hg hn p q x0 x1
    refine vAny [0, 1, 2, 3, 4, 6, 7, 8, 9, 10, 5, 11, 12] 13 (twoL (b + 6) (b + 7)) (by kernel_rfl) (by kernel_rfl) ?_
    simp -implicitDefEqProofs only [vqa, Nat.reduceEqDiff, Nat.reduceAdd, reduceIte, Nat.reduceLeDiff, Nat.reduceBEq, Nat.reduceLT, Nat.reduceSub, Int.reduceLT, Int.reduceLE, Int.reduceEq, Int.reduceToNat, Nat.reduceMul, eq_self, implies_true, forall_const, restr_two1, restr_two2, agree_two, m6, m7]
    refine (p26 (b + 1000) hB ok hbB l0 l1).mono fun r m2 ⟨hr, hM, hF⟩ => ?_
    subst hr
    have k6 := (hF (b + 6) (by omega) (hS 6)).trans m6
    have k7 := (hF (b + 7) (by omega) (hS 7)).trans m7
    simp -implicitDefEqProofs only [vqa, Nat.reduceEqDiff, Nat.reduceAdd, reduceIte, Nat.reduceLeDiff, Nat.reduceBEq, Nat.reduceLT, Nat.reduceSub, Int.reduceLT, Int.reduceLE, Int.reduceEq, Int.reduceToNat, Nat.reduceMul, eq_self, implies_true, forall_const, restr_two1, restr_two2, agree_two, k6, k7, m6, m7]
    exact ⟨_, _, _, rfl, g, hM.wide (ext 400 (by decide)), frm hF⟩
  · have g := mux_got ok hg hn p q x0 x1 x2
    refine vAny [0, 1, 2, 3, 4, 5, 6, 8, 9, 7, 10, 11, 12, 13, 14, 15, 16, 17, 18, 19, 20, 21, 22, 23, 24] 25 (twoL (b + 6) (b + 7)) (by kernel_rfl) (by kernel_rfl) ?_
    simp -implicitDefEqProofs only [vqa, Nat.reduceEqDiff, Nat.reduceAdd, reduceIte, Nat.reduceLeDiff, Nat.reduceBEq, Nat.reduceLT, Nat.reduceSub, Int.reduceLT, Int.reduceLE, Int.reduceEq, Int.reduceToNat, Nat.reduceMul, eq_self, implies_true, forall_const, restr_two1, restr_two2, agree_two, m6, m7]
    refine (p27 (b + 1000) hB ok hbB l0 l1 l2).mono fun r m2 ⟨hr, hM, hF⟩ => ?_
    subst hr
    have k6 := (hF (b + 6) (by omega) (hS 6)).trans m6
    have k7 := (hF (b + 7) (by omega) (hS 7)).trans m7
    cases hv0 : M.lv p q l0 <;> cases hv1 : M.lv p q l1 <;> simp -implicitDefEqProofs only [vqa, Nat.reduceEqDiff, Nat.reduceAdd, reduceIte, Nat.reduceLeDiff, Nat.reduceBEq, Nat.reduceLT, Nat.reduceSub, Int.reduceLT, Int.reduceLE, Int.reduceEq, Int.reduceToNat, Nat.reduceMul, eq_self, implies_true, forall_const, restr_two1, restr_two2, agree_two, k6, k7, m6, m7, hv0, hv1, Bool.not_true, Bool.not_false]
    all_goals exact ⟨_, _, _, rfl, ⟨g.ms, g.bef, by rw [g.val, hv0, hv1]; rfl⟩, hM.wide (ext 400 (by decide)), frm hF⟩
  · refine vFor 3 (fun i e m => e 0 = .ptr o v 0 ∧ e 5 = .ptr (b + 5) V5 0 ∧ e 6 = .ptr (b + 6) V6 0 ∧ e 10 = .int .i64 ((rowB (fun k => M.lv p q ([l0, l1, l2].getD k 0)) i : Nat) : Int) ∧ e 98 = .agg [.bool (M.lv p q l0), .bool (M.lv p q l1), .bool (M.lv p q l2)] ∧ e 99 = .int .i64 i ∧ m = mB) ?_ ?_ ?_
    · simp -implicitDefEqProofs only [vqa, Nat.reduceEqDiff, Nat.reduceAdd, reduceIte, Nat.reduceLeDiff, Nat.reduceBEq, Nat.reduceLT, Nat.reduceSub, Int.reduceLT, Int.reduceLE, Int.reduceEq, Int.reduceToNat, Nat.reduceMul, eq_self, implies_true, forall_const, m7]
      rfl
    · rintro i e m hi hi' ⟨g0, g5, g6, g10, g98, g99, rfl⟩
      have hor := or_row (fun k => M.lv p q ([l0, l1, l2].getD k 0)) i hi
      have hno : M.lv p q ([l0, l1, l2].getD i 0) = false → rowB (fun k => M.lv p q ([l0, l1, l2].getD k 0)) (i + 1) = rowB (fun k => M.lv p q ([l0, l1, l2].getD k 0)) i := fun h => by
        show rowB _ i + (if M.lv p q ([l0, l1, l2].getD i 0) = true then _ else 0) = _
        rw [h]; rfl
      have hi3 : (i : Int) < 3 := by omega
      have hav : ([AV.bool (M.lv p q l0), AV.bool (M.lv p q l1), AV.bool (M.lv p q l2)] : List AV).getD i .undef = .bool (M.lv p q ([l0, l1, l2].getD i 0)) := by
        rcases (show i = 0 ∨ i = 1 ∨ i = 2 by omega) with rfl | rfl | rfl <;> rfl
      unfold b14_0
      cases hv : M.lv p q ([l0, l1, l2].getD i 0) with
      | true =>
        rw [hv] at hav
        simp -implicitDefEqProofs only [vqa, Nat.reduceEqDiff, Nat.reduceAdd, reduceIte, Nat.reduceLeDiff, Nat.reduceBEq, Nat.reduceLT, Nat.reduceSub, Int.reduceLT, Int.reduceLE, Int.reduceEq, Int.reduceToNat, Nat.reduceMul, eq_self, implies_true, forall_const, g0, g5, g6, g10, g98, g99, hi3, hav]
        exact ⟨by omega, by omega, hi, hor hv, wI (by omega) (by omega)⟩
      | false =>
        rw [hv] at hav
        simp -implicitDefEqProofs only [vqa, Nat.reduceEqDiff, Nat.reduceAdd, reduceIte, Nat.reduceLeDiff, Nat.reduceBEq, Nat.reduceLT, Nat.reduceSub, Int.reduceLT, Int.reduceLE, Int.reduceEq, Int.reduceToNat, Nat.reduceMul, eq_self, implies_true, forall_const, g0, g5, g6, g10, g98, g99, hi3, hav]
        exact ⟨by omega, hi, congrArg Nat.cast (hno hv).symm, wI (by omega) (by omega)⟩
    · rintro e m ⟨g0, g5, g6, g10, g98, g99, rfl⟩
      unfold b14_0
      have g99' : e 99 = .int .i64 3 := g99
      simp -implicitDefEqProofs only [vqa, Nat.reduceEqDiff, Nat.reduceAdd, reduceIte, Nat.reduceLeDiff, Nat.reduceBEq, Nat.reduceLT, Nat.reduceSub, Int.reduceLT, Int.reduceLE, Int.reduceEq, Int.reduceToNat, Nat.reduceMul, eq_self, implies_true, forall_const, g0, g5, g6, g10, g98, g99']
      refine vAny [0, 1, 2, 5, 6, 7, 8, 9, 10, 3, 4, 11, 12] 13 (oneL (b + 5)) (by kernel_rfl) (by kernel_rfl) ?_
      simp -implicitDefEqProofs only [vqa, Nat.reduceEqDiff, Nat.reduceAdd, reduceIte, Nat.reduceLeDiff, Nat.reduceBEq, Nat.reduceLT, Nat.reduceSub, Int.reduceLT, Int.reduceLE, Int.reduceEq, Int.reduceToNat, Nat.reduceMul, eq_self, implies_true, forall_const, g0, g5, g6, g10, g98, g99', m5, m6]
      have lt3 : ∀ k, k < 3 → k = 0 ∨ k = 1 ∨ k = 2 := fun k hk => by omega
      have hr8 : rowB (fun k => M.lv p q ([l0, l1, l2].getD k 0)) 3 < 64 := by
        simp only [rowB]
        split <;> split <;> split <;> omega
      refine ⟨by omega, fun k hk => by rcases lt3 k hk with rfl | rfl | rfl <;> rfl, ?_⟩
      refine (p28 (b + 1000) (hB.setOut (hS 6)) ok hbB hg t ht 3 (by decide) (fun k => [l0, l1, l2].getD k 0) _ (fun k hk => by rcases lt3 k hk with rfl | rfl | rfl <;> rfl) (fun k hk => by rcases lt3 k hk with rfl | rfl | rfl <;> assumption)).mono fun r m2 ⟨M', l, d, hr, hM, hms, hbf, hval, hF⟩ => ?_
      subst hr
      have hd := hms.room (show M.n + tc 3 ≤ 4000 from hn)
      have k5 := (hF (b + 5) (by omega) (hS 5)).trans ((set_ne (by omega) _ _).trans m5)
      simp -implicitDefEqProofs only [vqa, Nat.reduceEqDiff, Nat.reduceAdd, reduceIte, Nat.reduceLeDiff, Nat.reduceBEq, Nat.reduceLT, Nat.reduceSub, Int.reduceLT, Int.reduceLE, Int.reduceEq, Int.reduceToNat, Nat.reduceMul, eq_self, implies_true, forall_const, g0, g5, g6, g10, g98, g99', m5, m6, k5]
      refine ⟨_, _, _, rfl, ⟨hms.bool hd, hbf, ?_⟩, hM.wide (ext 20000 (by decide)), fun i hi hs => ?_⟩
      · rw [hval hd p q]
        exact (tabB_bit ht hr8).symm
      · rw [hF i (by omega) hs, set_ne (by omega), hF0 i hi]
end Go.Ab
