/- Walks: the maker's Table, and what it is worth. (Do not import it beside SaMak4.) -/
import Derived.Test.YtodncnlnadgkhacSaMak2
import Derived.Test.YtodncnlnadgkhacSaMakV
import Derived.Test.YtodncnlnadgkhacFwT
set_option linter.unusedSimpArgs false
set_option linter.unusedVariables false
namespace Go.Ab
open Go
def a58 : AC := (.seq (.ops [⟨(some 6), none, (.v (.mv (.c (.int .i64 0))))⟩, ⟨(some 7), none, (.v (.mv (.c (.bool false))))⟩]) (.seq (.ops [⟨(some 18), none, (.v (.mv (.t 2)))⟩, ⟨(some 19), none, (.v (.len (.t 18)))⟩, ⟨(some 8), none, (.v (.mv (.t 19)))⟩]) (.seq (.ops [⟨(some 9), none, (.v (.mv (.c (.int .u64 18446744073709551615))))⟩]) (.seq (.seq (.ops [⟨(some 20), none, (.v (.mv (.t 8)))⟩, ⟨(some 21), none, (.v (.bin .lss (.t 20) (.c (.int .i64 6))))⟩]) (.cond (.t 21) (.ops [⟨(some 22), none, (.v (.mv (.t 8)))⟩, ⟨(some 23), none, (.v (.bin .shl (.c (.int .u64 1)) (.t 22)))⟩, ⟨(some 24), none, (.v (.bin .shl (.c (.int .u64 1)) (.t 23)))⟩, ⟨(some 25), none, (.v (.bin .sub (.t 24) (.c (.int .u64 1))))⟩, ⟨(some 9), none, (.v (.mv (.t 25)))⟩]) .skip)) (.seq (.seq (.ops [⟨(some 26), none, (.v (.mv (.t 1)))⟩, ⟨(some 27), none, (.v (.mv (.t 9)))⟩, ⟨(some 28), none, (.v (.bin .and (.t 26) (.t 27)))⟩]) (.block 0 (.seq (.ops [⟨(some 30), none, (.v (.bin .eql (.t 28) (.c (.int .u64 0))))⟩, ⟨(some 29), none, (.v (.mv (.t 30)))⟩]) (.cond (.t 29) (.seq (.ops [⟨(some 6), none, (.v (.mv (.c (.int .i64 0))))⟩, ⟨(some 7), none, (.v (.mv (.c (.bool true))))⟩]) .ret) (.seq (.ops [⟨(some 32), none, (.v (.mv (.t 9)))⟩, ⟨(some 33), none, (.v (.bin .eql (.t 28) (.t 32)))⟩, ⟨(some 31), none, (.v (.mv (.t 33)))⟩]) (.cond (.t 31) (.seq (.ops [⟨(some 6), none, (.v (.mv (.c (.int .i64 1))))⟩, ⟨(some 7), none, (.v (.mv (.c (.bool true))))⟩]) .ret) .skip)))))) (.seq (.ops [⟨(some 34), none, (.v (.mv (.t 8)))⟩, ⟨(some 35), none, (.v (.bin .sub (.t 34) (.c (.int .i64 1))))⟩, ⟨(some 36), none, (.v (.bin .shl (.c (.int .i64 1)) (.t 35)))⟩, ⟨(some 10), none, (.v (.mv (.t 36)))⟩]) (.seq (.ops [⟨(some 37), none, (.v (.mv (.t 10)))⟩, ⟨(some 38), none, (.v (.bin .shl (.c (.int .u64 1)) (.t 37)))⟩, ⟨(some 39), none, (.v (.bin .sub (.t 38) (.c (.int .u64 1))))⟩, ⟨(some 11), none, (.v (.mv (.t 39)))⟩]) (.seq (.ops [⟨(some 40), none, (.v (.mv (.t 1)))⟩, ⟨(some 41), none, (.v (.mv (.t 10)))⟩, ⟨(some 42), none, (.v (.bin .shr (.t 40) (.t 41)))⟩, ⟨(some 43), none, (.v (.mv (.t 11)))⟩, ⟨(some 44), none, (.v (.bin .and (.t 42) (.t 43)))⟩, ⟨(some 45), none, (.v (.mv (.t 1)))⟩, ⟨(some 46), none, (.v (.mv (.t 11)))⟩, ⟨(some 47), none, (.v (.bin .and (.t 45) (.t 46)))⟩, ⟨(some 12), none, (.v (.mv (.t 44)))⟩, ⟨(some 13), none, (.v (.mv (.t 47)))⟩]) (.seq (.seq (.ops [⟨(some 48), none, (.v (.mv (.t 12)))⟩, ⟨(some 49), none, (.v (.mv (.t 13)))⟩, ⟨(some 50), none, (.v (.bin .eql (.t 48) (.t 49)))⟩]) (.cond (.t 50) (.seq (.ops [⟨(some 51), none, (.v (.mv (.t 0)))⟩, ⟨(some 52), none, (.v (.mv (.t 13)))⟩, ⟨(some 53), none, (.v (.mv (.t 2)))⟩, ⟨(some 54), none, (.v (.mv (.t 8)))⟩, ⟨(some 55), none, (.v (.bin .sub (.t 54) (.c (.int .i64 1))))⟩, ⟨(some 56), none, (.v (.slc 1 (.t 53) none (some (.t 55))))⟩, ⟨(some 57), none, (.call (.c (.fn 58 [])) [(.t 51), (.t 52), (.t 56)])⟩, ⟨(some 58), none, (.v (.ext 0 (.t 57)))⟩, ⟨(some 59), none, (.v (.ext 1 (.t 57)))⟩, ⟨(some 6), none, (.v (.mv (.t 58)))⟩, ⟨(some 7), none, (.v (.mv (.t 59)))⟩]) .ret) .skip)) (.seq (.ops [⟨(some 61), none, (.v (.mv (.t 0)))⟩, ⟨(some 62), none, (.v (.mv (.t 12)))⟩, ⟨(some 63), none, (.v (.mv (.t 2)))⟩, ⟨(some 64), none, (.v (.mv (.t 8)))⟩, ⟨(some 65), none, (.v (.bin .sub (.t 64) (.c (.int .i64 1))))⟩, ⟨(some 66), none, (.v (.slc 1 (.t 63) none (some (.t 65))))⟩, ⟨(some 67), none, (.call (.c (.fn 58 [])) [(.t 61), (.t 62), (.t 66)])⟩, ⟨(some 60), none, (.v (.mv (.t 67)))⟩, ⟨(some 68), none, (.v (.ext 0 (.t 60)))⟩, ⟨(some 69), none, (.v (.ext 1 (.t 60)))⟩, ⟨(some 14), none, (.v (.mv (.t 68)))⟩, ⟨(some 15), none, (.v (.mv (.t 69)))⟩]) (.seq (.ops [⟨(some 71), none, (.v (.mv (.t 0)))⟩, ⟨(some 72), none, (.v (.mv (.t 13)))⟩, ⟨(some 73), none, (.v (.mv (.t 2)))⟩, ⟨(some 74), none, (.v (.mv (.t 8)))⟩, ⟨(some 75), none, (.v (.bin .sub (.t 74) (.c (.int .i64 1))))⟩, ⟨(some 76), none, (.v (.slc 1 (.t 73) none (some (.t 75))))⟩, ⟨(some 77), none, (.call (.c (.fn 58 [])) [(.t 71), (.t 72), (.t 76)])⟩, ⟨(some 70), none, (.v (.mv (.t 77)))⟩, ⟨(some 78), none, (.v (.ext 0 (.t 70)))⟩, ⟨(some 79), none, (.v (.ext 1 (.t 70)))⟩, ⟨(some 16), none, (.v (.mv (.t 78)))⟩, ⟨(some 17), none, (.v (.mv (.t 79)))⟩]) (.seq (.seq (.ops [⟨(some 80), none, (.v (.mv (.t 15)))⟩, ⟨(some 81), none, (.v (.not (.t 80)))⟩, ⟨(some 82), none, (.v (.mv (.t 81)))⟩, ⟨(some 83), (some (82, false)), (.v (.mv (.t 17)))⟩, ⟨(some 84), (some (82, false)), (.v (.not (.t 83)))⟩, ⟨(some 85), none, (.v (.pick (.t 82) (.c (.bool true)) (.t 84)))⟩]) (.cond (.t 85) (.seq (.ops [⟨(some 6), none, (.v (.mv (.c (.int .i64 0))))⟩, ⟨(some 7), none, (.v (.mv (.c (.bool false))))⟩]) .ret) .skip)) (.seq (.any [⟨(some 86), none, (.v (.mv (.t 0)))⟩, ⟨(some 87), none, (.v (.mv (.t 2)))⟩, ⟨(some 88), none, (.v (.mv (.t 8)))⟩, ⟨(some 89), none, (.v (.bin .sub (.t 88) (.c (.int .i64 1))))⟩, ⟨(some 90), none, (.v (.idx 1 (.t 87) (.t 89)))⟩, ⟨(some 91), none, (.v (.load 1 false (.t 90)))⟩, ⟨(some 92), none, (.v (.mv (.t 14)))⟩, ⟨(some 93), none, (.v (.mv (.t 2)))⟩, ⟨(some 94), none, (.v (.mv (.t 8)))⟩, ⟨(some 95), none, (.v (.bin .sub (.t 94) (.c (.int .i64 1))))⟩, ⟨(some 96), none, (.v (.idx 1 (.t 93) (.t 95)))⟩, ⟨(some 97), none, (.v (.load 1 false (.t 96)))⟩, ⟨(some 98), none, (.call (.c (.fn 44 [])) [(.t 97)])⟩, ⟨(some 99), none, (.v (.mv (.t 16)))⟩, ⟨(some 100), none, (.call (.c (.fn 56 [])) [(.t 86), (.t 91), (.t 92), (.t 98), (.t 99)])⟩, ⟨(some 101), none, (.v (.ext 0 (.t 100)))⟩, ⟨(some 102), none, (.v (.ext 1 (.t 100)))⟩, ⟨(some 6), none, (.v (.mv (.t 101)))⟩, ⟨(some 7), none, (.v (.mv (.t 102)))⟩] [[], [], [], [2], [1, 3], [4], [], [], [], [8], [7, 9], [10], [11], [], [0, 5, 6, 12, 13, 12], [14], [14], [15, 14, 0, 1, 2, 3, 4, 5, 6, 7, 8, 9, 10, 11, 12, 13, 14, 15, 16], [16, 17, 0, 1, 2, 3, 4, 5, 6, 7, 8, 9, 10, 11, 12, 13, 14, 15, 16, 17]]) .ret)))))))))))))
def r58 : List AI := [(.mv (.t 6)), (.mv (.t 7))]
theorem f58 : Fn PP 58 3 a58 r58 := Fn.of (fn := Go.Proofs.Try.f58) (by kernel_rfl) (by kernel_rfl) (by kernel_rfl)
def b28_0 (b : Nat) : AC := (.seq (.ops [⟨(some 19), none, (.v (.bin .lss (.t 18) (.t 17)))⟩]) (.seq (.cond (.t 19) .skip (.exit 0)) (.seq (.block 1 (.seq (.ops [⟨(some 20), none, (.v (.mv (.t 18)))⟩, ⟨(some 21), none, (.v (.idx 1 (.t 16) (.t 18)))⟩, ⟨(some 22), none, (.v (.load 1 false (.t 21)))⟩, ⟨(some 7), none, (.v (.mv (.t 20)))⟩, ⟨(some 8), none, (.v (.mv (.t 22)))⟩]) (.seq (.ops [⟨(some 23), none, (.v (.mv (.t 1)))⟩, ⟨(some 24), none, (.v (.mv (.t 2)))⟩, ⟨(some 25), none, (.v (.len (.t 24)))⟩, ⟨(some 26), none, (.v (.mv (.t 7)))⟩, ⟨(some 27), none, (.call (.c (.fn 57 [])) [(.t 23), (.t 25), (.t 26)])⟩, ⟨(some 28), none, (.v (.mv (.t 27)))⟩, ⟨(some 29), (some (28, true)), (.v (.mv (.t 0)))⟩, ⟨(some 30), (some (28, true)), (.v (.mv (.t 8)))⟩, ⟨(some 31), (some (28, true)), (.e (.lit (b + 31) 35 1 1 [(.int .i64 0)] [(0, (.t 30))]))⟩, ⟨(some 32), (some (28, true)), (.call (.c (.fn 54 [])) [(.t 29), (.t 31)])⟩, ⟨(some 33), (some (28, true)), (.v (.not (.t 32)))⟩, ⟨(some 34), none, (.v (.pick (.t 28) (.t 33) (.c (.bool false))))⟩]) (.cond (.t 34) (.seq (.ops [⟨(some 6), none, (.v (.mv (.c (.int .i64 0))))⟩]) .ret) .skip)))) (.ops [⟨(some 35), none, (.v (.bin .add (.t 18) (.c (.int .i64 1))))⟩, ⟨(some 18), none, (.v (.mv (.t 35)))⟩]))))
def b28 (b : Nat) : AC := (.seq (.ops [⟨(some 6), none, (.v (.mv (.c (.int .i64 0))))⟩]) (.seq (.seq (.ops [⟨(some 11), none, (.v (.mv (.t 2)))⟩, ⟨(some 12), none, (.v (.len (.t 11)))⟩, ⟨(some 13), none, (.v (.bin .gtr (.t 12) (.c (.int .i64 6))))⟩]) (.cond (.t 13) (.seq (.ops [⟨(some 14), none, (.v (.mv (.t 0)))⟩, ⟨(some 15), none, (.call (.c (.fn 43 [])) [(.t 14), (.c (.int .i64 3))])⟩, ⟨(some 6), none, (.v (.mv (.t 15)))⟩]) .ret) .skip)) (.seq (.seq (.ops [⟨(some 16), none, (.v (.mv (.t 2)))⟩, ⟨(some 17), none, (.v (.len (.t 16)))⟩, ⟨(some 18), none, (.v (.mv (.c (.int .i64 0))))⟩]) (.block 0 (.loop (b28_0 b)))) (.seq (.ops [⟨(some 37), none, (.v (.mv (.t 0)))⟩, ⟨(some 38), none, (.v (.mv (.t 1)))⟩, ⟨(some 39), none, (.v (.mv (.t 2)))⟩, ⟨(some 40), none, (.call (.c (.fn 58 [])) [(.t 37), (.t 38), (.t 39)])⟩, ⟨(some 36), none, (.v (.mv (.t 40)))⟩, ⟨(some 41), none, (.v (.ext 0 (.t 36)))⟩, ⟨(some 42), none, (.v (.ext 1 (.t 36)))⟩, ⟨(some 9), none, (.v (.mv (.t 41)))⟩, ⟨(some 10), none, (.v (.mv (.t 42)))⟩]) (.seq (.ops [⟨(some 43), none, (.v (.mv (.t 9)))⟩, ⟨(some 6), none, (.v (.mv (.t 43)))⟩]) .ret)))))
def q28 : List AI := [(.mv (.t 6))]
theorem g28 (b : Nat) : Fn PP 28 3 (b28 b) q28 := Fn.ofB b (fn := Go.Proofs.Try.f28) (by kernel_rfl) (by kernel_rfl) (by kernel_rfl)
def tc : Nat → Nat
  | 0 => 0
  | n + 1 => 2 * tc n + 3
def ct : Nat → Nat
  | 0 => 0
  | n + 1 => 2 * ct n + 300
/-- What 'table' does with n literals. -/
def TabP (n : Nat) : Prop := ∀ (b : Nat) {mem : Mem} {o v : Nat} {fi fr : Nat → AV} {M : Mak} {S : Nat → Prop}, MkA mem o v fi fr M S → M.Ok → (∀ i, S i → i < b) → M.Good → ∀ (t : Int), U64 t → ∀ (x : Nat → Int) (f : Nat → AV), (∀ i, i < n → f i = .int .i64 (x i)) → (∀ i, i < n → M.bef (x i)) →
  CallW PP 58 [.ptr o v 0, .int .u64 t, .fs n f] mem fun r m => ∃ M' l d, r = .tup [.int .i64 l, .bool d] ∧ MkA m o v fi fr M' (Ext S b (b + ct n)) ∧ MS M M' (tc n) d ∧ M'.bef l ∧ (d = true → ∀ p q, M'.lv p q l = bit t (rowB (fun j => M.lv p q (x j)) n)) ∧ Frame S b mem m
theorem rowB_top {b : Nat → Bool} {n : Nat} : rowB b (n + 1) = (if b n = true then 2 ^ n + rowB b n else rowB b n) := by
  simp only [rowB]; split <;> omega
theorem rowB_congr {b c : Nat → Bool} : ∀ n, (∀ j, j < n → b j = c j) → rowB b n = rowB c n
  | 0, _ => rfl
  | n + 1, h => by simp only [rowB, rowB_congr n fun j hj => h j (by omega), h n (by omega)]
theorem ones_bit : ∀ k, k < 64 → bit 18446744073709551615 k = true := by decide +kernel
theorem low_zero {n : Nat} (hn : n < 6) {t : Int} (h : lowT n t = 0) {k : Nat} (hk : k < 2 ^ n) : bit t k = false := by
  rw [← low_bit hn t hk, h]; exact bit_zero k
theorem low_ones {n : Nat} (hn : n < 6) {t : Int} (h : lowT n t = 2 ^ 2 ^ n - 1) {k : Nat} (hk : k < 2 ^ n) : bit t k = true := by
  rw [← low_bit hn t hk, h, mask_bit n hn k (by have := p_le n (by omega); omega), decide_eq_true hk]
theorem ext0 {S : Nat → Prop} {b c : Nat} : ∀ i, S i → Ext S b c i := fun _ => .inl
theorem tab0 : TabP 0 := by
  intro b mem o v fi fr M S h ok hb hg t ht x f hf hd
  have hand := shift_and_one ht 0 (by decide)
  have e0 : t.fdiv (2 ^ min 0 64) = t := by simp
  rw [e0] at hand
  refine Fn.call fmix f58 ?_
  unfold a58 r58
  have o1 : IntKind.u64.wrap (1 * 2 ^ min 0 64) = 1 := by decide
  have o2 : IntKind.u64.wrap (IntKind.u64.wrap (1 * 2 ^ min (IntKind.u64.wrap (1 * 2 ^ min 0 64)).toNat 64) - 1) = 1 := by decide
  simp -implicitDefEqProofs only [vqa, Nat.reduceEqDiff, Nat.reduceAdd, reduceIte, Nat.reduceLeDiff, Nat.reduceBEq, Nat.reduceLT, Nat.reduceSub, Int.reduceLT, Int.reduceLE, Int.reduceEq, Int.reduceToNat, Nat.reduceMul, eq_self, implies_true, forall_const]
  rw [o2, o1, hand]
  refine ⟨by decide, fun _ => ?_, fun h1 => ⟨fun _ => ?_, fun h2 => ?_⟩⟩
  · rename_i h1
    exact ⟨M, 0, true, rfl, h.wide ext0, .refl ok hg, bef0 M, fun _ p q => by rw [lv_zero]; show _ = bit t 0; cases hbit : bit t 0 with
      | false => rfl
      | true => rw [hbit] at h1; simp at h1, .refl⟩
  · rename_i h2
    exact ⟨M, 1, true, rfl, h.wide ext0, .refl ok hg, bef1 M, fun _ p q => by rw [lv_one]; show _ = bit t 0; cases hbit : bit t 0 with
      | true => rfl
      | false => rw [hbit] at h2; simp at h2, .refl⟩
  · exfalso
    cases hbit : bit t 0 <;> rw [hbit] at h1 h2 <;> simp at h1 h2
theorem ext_ext {S : Nat → Prop} {b c d : Nat} (hb : b ≤ c) (hc : c ≤ d) : ∀ i, Ext (Ext S b c) c d i → Ext S b d i := fun i h => by
  rcases h with (h | h) | h
  · exact .inl h
  · exact .inr ⟨h.1, by omega⟩
  · exact .inr ⟨by omega, h.2⟩
theorem ext_up {S : Nat → Prop} {b c d : Nat} (hc : c ≤ d) : ∀ i, Ext S b c i → Ext S b d i := fun i h => h.elim .inl fun h => .inr ⟨h.1, by omega⟩
theorem w58 : ∀ n, n < 6 → IntKind.u64.wrap (1 * 2 ^ min (2 ^ n) 64) = 2 ^ 2 ^ n ∧ IntKind.u64.wrap ((2 : Int) ^ 2 ^ n - 1) = 2 ^ 2 ^ n - 1 ∧ IntKind.u64.wrap (1 * 2 ^ min (n + 1) 64) = ((2 ^ (n + 1) : Nat) : Int) := by decide
theorem tabS (n : Nat) (hn6 : n < 6) (ih : TabP n) : TabP (n + 1) := by
  intro b mem o v fi fr M S h ok hb hg t ht x f hf hd
  have w1 : IntKind.i64.wrap (((n + 1 : Nat) : Int) - 1) = (n : Nat) := by rw [wI (by omega) (by omega)]; omega
  have w2 := shl_one (n := n) (by omega)
  obtain ⟨w3, w4, w5⟩ := w58 n hn6
  have so : S o := by obtain ⟨_, _, _, _, _, _, _, so, _⟩ := h; exact so
  have hlo : ∀ (z : Int) {k : Nat}, k < 2 ^ n → bit (lowT n z) k = bit z k := fun z k hk => low_bit hn6 z hk
  have h2n := p_le n (by omega)
  have ha : ∀ k, k < 2 ^ n → bit (lowT n (t.fdiv (2 ^ min (2 ^ n) 64))) k = bit t (2 ^ n + k) := fun k hk => by
    rw [hlo _ hk, bit_shr ht (by have := p_le (n + 1) (by omega); rw [Nat.pow_succ] at this; omega)]
  have hbb : ∀ k, k < 2 ^ n → bit (lowT n t) k = bit t k := fun k hk => hlo _ hk
  have uA : U64 (lowT n (t.fdiv (2 ^ min (2 ^ n) 64))) := u64_and _ _
  have uB : U64 (lowT n t) := u64_and _ _
  have fold : ∀ z : Int, bitop .and .u64 z (2 ^ 2 ^ n - 1) = lowT n z := fun _ => rfl
  have hfn := hf n (by omega)
  have hf0 : (0 : Int) < (n : Nat) → (f 0).cells.length = 1 := fun hp => by rw [hf 0 (by omega)]; rfl
  have hz : ∀ O : Int, (((n + 1 : Nat) : Int) < 6 ∧ O = 2 ^ 2 ^ (n + 1) - 1) ∨ (¬ ((n + 1 : Nat) : Int) < 6 ∧ O = 18446744073709551615) → (bitop .and .u64 t O = 0 → ∀ k, k < 2 ^ (n + 1) → bit t k = false) ∧ (bitop .and .u64 t O = O → ∀ k, k < 2 ^ (n + 1) → bit t k = true) := fun O hO => by
    have h64 := p_le (n + 1) (by omega)
    rcases hO with ⟨q, rfl⟩ | ⟨q, rfl⟩
    · exact ⟨fun h k hk => low_zero (n := n + 1) (by omega) h hk, fun h k hk => low_ones (n := n + 1) (by omega) h hk⟩
    · refine ⟨fun h k hk => ?_, fun h k hk => ?_⟩
      · have := congrArg (fun z => bit z k) h
        simp only [bit_and, ones_bit k (by omega), Bool.and_true] at this
        rw [this]; exact bit_zero k
      · have := congrArg (fun z => bit z k) h
        simpa only [bit_and, ones_bit k (by omega), Bool.and_true] using this
  have w6 : ((n + 1 : Nat) : Int) < 6 → IntKind.u64.wrap (IntKind.u64.wrap (1 * 2 ^ min (2 ^ (n + 1)) 64) - 1) = 2 ^ 2 ^ (n + 1) - 1 := fun q => by
    obtain ⟨u1, u2, _⟩ := w58 (n + 1) (by omega)
    rw [u1, u2]
  have hrow : ∀ c : Nat → Bool, rowB c (n + 1) < 2 ^ (n + 1) := fun c => rowB_lt c _
  have hrow' : ∀ c : Nat → Bool, rowB c n < 2 ^ n := fun c => rowB_lt c _
  refine Fn.call fmix f58 ?_
  unfold a58 r58
  simp -implicitDefEqProofs only [vqa, Nat.reduceEqDiff, Nat.reduceAdd, reduceIte, Nat.reduceLeDiff, Nat.reduceBEq, Nat.reduceLT, Nat.reduceSub, Int.reduceLT, Int.reduceLE, Int.reduceEq, Int.reduceToNat, Nat.reduceMul, eq_self, implies_true, forall_const, w1, w2, w3, w4, w5, fold, Int.sub_zero, hfn]
  have t1 : tc (n + 1) = 2 * tc n + 3 := rfl
  have t2 : ct (n + 1) = 2 * ct n + 300 := rfl
  refine ⟨fun q => ?_, fun q => ?_⟩
  first | have hO := hz _ (.inl ⟨q, w6 q⟩) | skip
  rotate_left
  have hO := hz _ (.inr ⟨q, rfl⟩)
  all_goals
    first
      | refine ⟨by omega, Int.natCast_nonneg _, fun _ => ?_, fun _ => ⟨fun _ => ?_, fun _ => ⟨by omega, Int.natCast_nonneg _, Int.natCast_nonneg _, fun e => ⟨⟨by omega, by omega, hf0⟩, ?_⟩, fun e => ⟨⟨by omega, by omega, hf0⟩, ?_⟩⟩⟩⟩
      | refine ⟨fun _ => ?_, fun _ => ⟨fun _ => ?_, fun _ => ⟨by omega, Int.natCast_nonneg _, Int.natCast_nonneg _, fun e => ⟨⟨by omega, by omega, hf0⟩, ?_⟩, fun e => ⟨⟨by omega, by omega, hf0⟩, ?_⟩⟩⟩⟩
    · rename_i h0
      exact ⟨M, 0, true, rfl, h.wide ext0, .refl ok hg, bef0 M, fun _ p q => by rw [lv_zero, hO.1 h0 _ (hrow _)], .refl⟩
    · rename_i h0
      exact ⟨M, 1, true, rfl, h.wide ext0, .refl ok hg, bef1 M, fun _ p q => by rw [lv_one, hO.2 h0 _ (hrow _)], .refl⟩
    · refine CallW.mono (ih b h ok hb hg (lowT n t) uB x f (fun i hi => hf i (by omega)) (fun i hi => hd i (by omega))) fun r m ⟨M', l, d, hr, hM, hs, bl, hl, hF⟩ => ?_
      subst hr
      simp -implicitDefEqProofs only [vqa, Nat.reduceEqDiff, Nat.reduceAdd, reduceIte, Nat.reduceLeDiff, Nat.reduceBEq, Nat.reduceLT, Nat.reduceSub, Int.reduceLT, Int.reduceLE, Int.reduceEq, Int.reduceToNat, Nat.reduceMul, eq_self, implies_true, forall_const]
      refine ⟨M', l, d, rfl, hM.wide (ext_up (by omega)), hs.mono (by omega), bl, fun hd1 p q => ?_, hF⟩
      rw [hl hd1 p q, rowB_top]
      split
      · rw [← ha _ (hrow' _), e]
      · exact hbb _ (hrow' _)
    · refine CallW.mono (ih b h ok hb hg _ uA x f (fun i hi => hf i (by omega)) (fun i hi => hd i (by omega))) fun r m ⟨M1, l1, d1, hr, hM1, s1, b1, v1, hF1⟩ => ?_
      subst hr
      simp -implicitDefEqProofs only [vqa, Nat.reduceEqDiff, Nat.reduceAdd, reduceIte, Nat.reduceLeDiff, Nat.reduceBEq, Nat.reduceLT, Nat.reduceSub, Int.reduceLT, Int.reduceLE, Int.reduceEq, Int.reduceToNat, Nat.reduceMul, eq_self, implies_true, forall_const, w1, Int.sub_zero]
      refine ⟨⟨by omega, by omega, hf0⟩, ?_⟩
      refine CallW.mono (ih (b + ct n) hM1 s1.ok (Ext.lt hb (by omega)) s1.good (lowT n t) uB x f (fun i hi => hf i (by omega)) (fun i hi => s1.pre.bef (hd i (by omega)))) fun r m ⟨M2, l2, d2, hr, hM2, s2, b2, v2, hF2⟩ => ?_
      subst hr
      have hM2' : MkA m o v fi fr M2 (Ext S b (b + 2 * ct n)) := hM2.wide (fun i hi => ext_up (by omega) i (ext_ext (by omega) (by omega) i hi))
      have hF12 := hF1.trans hF2 (by omega)
      have vx := hd n (by omega)
      have s12 := s1.trans s2
      cases d1 with
      | false =>
        simp -implicitDefEqProofs only [vqa, Nat.reduceEqDiff, Nat.reduceAdd, reduceIte, Nat.reduceLeDiff, Nat.reduceBEq, Nat.reduceLT, Nat.reduceSub, Int.reduceLT, Int.reduceLE, Int.reduceEq, Int.reduceToNat, Nat.reduceMul, eq_self, implies_true, forall_const, w1, Int.sub_zero]
        exact ⟨M2, 0, false, rfl, hM2'.wide (ext_up (by omega)), s12.mono (by omega), bef0 _, fun e => Bool.noConfusion e, hF12⟩
      | true =>
      cases d2 with
      | false =>
        simp -implicitDefEqProofs only [vqa, Nat.reduceEqDiff, Nat.reduceAdd, reduceIte, Nat.reduceLeDiff, Nat.reduceBEq, Nat.reduceLT, Nat.reduceSub, Int.reduceLT, Int.reduceLE, Int.reduceEq, Int.reduceToNat, Nat.reduceMul, eq_self, implies_true, forall_const, w1, Int.sub_zero]
        exact ⟨M2, 0, false, rfl, hM2'.wide (ext_up (by omega)), s12.mono (by omega), bef0 _, fun e => Bool.noConfusion e, hF12⟩
      | true =>
      simp -implicitDefEqProofs only [vqa, Nat.reduceEqDiff, Nat.reduceAdd, reduceIte, Nat.reduceLeDiff, Nat.reduceBEq, Nat.reduceLT, Nat.reduceSub, Int.reduceLT, Int.reduceLE, Int.reduceEq, Int.reduceToNat, Nat.reduceMul, eq_self, implies_true, forall_const, w1, Int.sub_zero]
      refine vAnyT [0, 1, 2, 3, 4, 5, 6, 7, 8, 9, 10, 11, 13] (.step 12 (.step 14 (.fork (.step 15 (.step 16 (.step 17 (.step 18 .leaf)))) (.step 16 (.step 15 (.step 17 (.step 18 .leaf))))))) (fun _ => True) (by kernel_rfl) (by kernel_rfl) trivial ?_
      simp -implicitDefEqProofs only [vqa, Nat.reduceEqDiff, Nat.reduceAdd, reduceIte, Nat.reduceLeDiff, Nat.reduceBEq, Nat.reduceLT, Nat.reduceSub, Int.reduceLT, Int.reduceLE, Int.reduceEq, Int.reduceToNat, Nat.reduceMul, eq_self, implies_true, forall_const, vqt, w1, Int.sub_zero, hfn, Int.toNat_natCast]
      have hnn : (0 : Int) ≤ (n : Nat) ∧ ((n : Nat) : Int) < ((n + 1 : Nat) : Int) := ⟨by omega, by omega⟩
      refine ⟨hnn, fun _ => ⟨_, rfl, hnn⟩, fun _ => ⟨_, rfl, trivial⟩, hnn, fun _ => ⟨_, rfl, hnn⟩, fun _ => ⟨_, rfl, trivial⟩, ?_⟩
      refine CallW.sc (p44 _) rfl ⟨trivial, trivial⟩ fun r hr => ⟨by subst hr; rfl, ?_⟩
      subst hr
      simp -implicitDefEqProofs only [vqa, Nat.reduceEqDiff, Nat.reduceAdd, reduceIte, Nat.reduceLeDiff, Nat.reduceBEq, Nat.reduceLT, Nat.reduceSub, Int.reduceLT, Int.reduceLE, Int.reduceEq, Int.reduceToNat, Nat.reduceMul, eq_self, implies_true, forall_const, vqt, w1, Int.sub_zero, hfn, Int.toNat_natCast]
      have z1 := v1 rfl
      have z2 := v2 rfl
      have vx1 := s1.pre.bef vx
      have vx2 := s2.pre.bef vx1
      obtain ⟨s3, b3, t3⟩ := pair_ms s2.ok s2.good vx2 (s2.pre.bef b1) (bef_not s2.ok vx2) b2
      refine CallW.mono (p56 (b + 2 * ct n) hM2' s2.ok (Ext.lt hb (by omega)) (x n) l1 (notL (x n)) l2) fun r m ⟨hr, hM3, hF3⟩ => ?_
      subst hr
      have hFF := hF12.trans hF3 (by omega)
      simp -implicitDefEqProofs only [vqa, Nat.reduceEqDiff, Nat.reduceAdd, reduceIte, Nat.reduceLeDiff, Nat.reduceBEq, Nat.reduceLT, Nat.reduceSub, Int.reduceLT, Int.reduceLE, Int.reduceEq, Int.reduceToNat, Nat.reduceMul, eq_self, implies_true, forall_const, vqt, w1, Int.sub_zero, hfn, Int.toNat_natCast]
      have hM3' : MkA m o v fi fr (M2.pair (x n) l1 (notL (x n)) l2).2.2 (Ext S b (b + ct (n + 1))) := hM3.wide fun i hi => ext_up (by omega) i (ext_ext (by omega) (Nat.le_add_right _ 300) i hi)
      have hS' := (s12.trans s3).mono (d := tc (n + 1)) (by omega)
      rw [Bool.true_and, Bool.true_and] at hS'
      have hV : (M2.pair (x n) l1 (notL (x n)) l2).2.1 = true → ∀ p q, (M2.pair (x n) l1 (notL (x n)) l2).2.2.lv p q (M2.pair (x n) l1 (notL (x n)) l2).1 = bit t (rowB (fun j => M.lv p q (x j)) (n + 1)) := fun hd3 p q => by
        have hc : rowB (fun j => M1.lv p q (x j)) n = rowB (fun j => M.lv p q (x j)) n := rowB_congr n fun j hj => s1.pre.lv p q (hd j (by omega))
        rw [t3 hd3 p q, lv_not s2.ok p q vx2, s2.pre.lv p q vx1, s1.pre.lv p q vx, s2.pre.lv p q b1, z1 p q, z2 p q, hc, rowB_top]
        cases hx : M.lv p q (x n) with
        | true =>
          simp only [hx, Bool.true_and, Bool.not_true, Bool.false_and, Bool.or_false, if_true]
          exact ha _ (hrow' _)
        | false =>
          simp only [hx, Bool.false_and, Bool.not_false, Bool.true_and, Bool.false_or, Bool.false_eq_true, if_false]
          exact hbb _ (hrow' _)
      generalize M2.pair (x n) l1 (notL (x n)) l2 = P at *
      first | exact ⟨P.2.2, P.1, P.2.1, rfl, hM3', hS', b3, hV, hFF⟩ | exact ⟨⟨P.2.2, P.1, P.2.1, rfl, hM3', hS', b3, hV, hFF⟩, ⟨P.2.2, P.1, P.2.1, rfl, hM3', hS', b3, hV, hFF⟩⟩
theorem tab (n : Nat) (h : n < 7) : TabP n := by
  induction n with
  | zero => exact tab0
  | succ n ih => exact tabS n (by omega) (ih (by omega))

theorem ct_le : ∀ n, n < 7 → ct n ≤ 18900 := by decide
theorem tc_le : ∀ n, n < 7 → tc n ≤ 189 := by decide
theorem p28 (b : Nat) {mem : Mem} {o v : Nat} {fi fr : Nat → AV} {M : Mak} {S : Nat → Prop} (h : MkA mem o v fi fr M S) (ok : M.Ok) (hb : ∀ i, S i → i < b) (hg : M.Good) (t : Int) (ht : U64 t) (n : Nat) (hn : n ≤ 6) (x : Nat → Int) (f : Nat → AV) (hf : ∀ i, i < n → f i = .int .i64 (x i)) (hx : ∀ i, i < n → M.bef (x i)) :
    CallW PP 28 [.ptr o v 0, .int .u64 t, .fs n f] mem fun r m => ∃ M' l d, r = .int .i64 l ∧ MkA m o v fi fr M' (Ext S b (b + 20000)) ∧ MS M M' (tc n) d ∧ M'.bef l ∧ (d = true → ∀ p q, M'.lv p q l = bit t (rowB (fun j => M.lv p q (x j)) n)) ∧ Frame S b mem m := by
  have so : S o := by obtain ⟨_, _, _, _, _, _, _, so, _⟩ := h; exact so
  refine Fn.call fmix (g28 b) ?_
  unfold b28 q28
  simp -implicitDefEqProofs only [vqa, Nat.reduceEqDiff, Nat.reduceAdd, reduceIte, Nat.reduceLeDiff, Nat.reduceBEq, Nat.reduceLT, Nat.reduceSub, Int.reduceLT, Int.reduceLE, Int.reduceEq, Int.reduceToNat, Nat.reduceMul, eq_self, implies_true, forall_const]
  refine ⟨fun h6 => absurd h6 (by omega), fun h6 => ?_⟩
  have hn6 : n ≤ 6 := hn
  refine vFor n (fun i e m => e 0 = .ptr o v 0 ∧ e 1 = .int .u64 t ∧ e 2 = .fs n f ∧ e 16 = .fs n f ∧ e 17 = .int .i64 n ∧ e 18 = .int .i64 i ∧ MkA m o v fi fr M S ∧ Frame S b mem m) ?_ ?_ ?_
  · simp -implicitDefEqProofs only [vqa, Nat.reduceEqDiff, Nat.reduceAdd, reduceIte, Nat.reduceLeDiff, Nat.reduceBEq, Nat.reduceLT, Nat.reduceSub, Int.reduceLT, Int.reduceLE, Int.reduceEq, Int.reduceToNat, Nat.reduceMul, eq_self, implies_true, forall_const]
    exact ⟨h, .refl⟩
  · rintro i e m hi hi' ⟨e0, e1, e2, e16, e17, e18, hM, hF⟩
    have hout : ¬ S (b + 31) := fun h => by have := hb _ h; omega
    unfold b28_0
    simp -implicitDefEqProofs only [vqa, Nat.reduceEqDiff, Nat.reduceAdd, reduceIte, Nat.reduceLeDiff, Nat.reduceBEq, Nat.reduceLT, Nat.reduceSub, Int.reduceLT, Int.reduceLE, Int.reduceEq, Int.reduceToNat, Nat.reduceMul, eq_self, implies_true, forall_const, e0, e1, e2, e16, e17, e18, hi', hf i hi]
    refine ⟨by omega, ?_⟩
    refine CallW.sc (p57 t n i ht (by omega) hi) rfl ⟨trivial, trivial, trivial, trivial⟩ fun r ⟨d, hr, hd⟩ => ⟨by subst hr; rfl, ?_⟩
    subst hr
    cases d with
    | false =>
      simp -implicitDefEqProofs only [vqa, Nat.reduceEqDiff, Nat.reduceAdd, reduceIte, Nat.reduceLeDiff, Nat.reduceBEq, Nat.reduceLT, Nat.reduceSub, Int.reduceLT, Int.reduceLE, Int.reduceEq, Int.reduceToNat, Nat.reduceMul, eq_self, implies_true, forall_const, e0, e1, e2, e16, e17, e18]
      exact ⟨hi, wI (by omega) (by omega), hM, hF⟩
    | true =>
      simp -implicitDefEqProofs only [vqa, Nat.reduceEqDiff, Nat.reduceAdd, reduceIte, Nat.reduceLeDiff, Nat.reduceBEq, Nat.reduceLT, Nat.reduceSub, Int.reduceLT, Int.reduceLE, Int.reduceEq, Int.reduceToNat, Nat.reduceMul, eq_self, implies_true, forall_const, e0, e1, e2, e16, e17, e18]
      refine (p54 (n := 1) (x := fun _ => x i) (hM.setOut (k := b + 31) hout) ok (set_same _ _ _) (by decide) (fun j hj => (Nat.lt_one_iff.1 hj) ▸ rfl)).mono fun r m1 ⟨hr, hM1, hF1⟩ => ?_
      subst hr
      have hFr : Frame S b mem m1 := fun j hj hs => by rw [hF1 j (fun e => hs (e ▸ so)), set_ne (by omega)]; exact hF j hj hs
      have q' : ∀ j, j < 1 → M.bef (x i) := fun _ _ => hx i hi
      rw [if_pos q'] at hM1
      simp -implicitDefEqProofs only [vqa, Nat.reduceEqDiff, Nat.reduceAdd, reduceIte, Nat.reduceLeDiff, Nat.reduceBEq, Nat.reduceLT, Nat.reduceSub, Int.reduceLT, Int.reduceLE, Int.reduceEq, Int.reduceToNat, Nat.reduceMul, eq_self, implies_true, forall_const, e0, e1, e2, e16, e17, e18, decide_eq_true q']
      exact ⟨fun nq => absurd (hx i hi) nq, fun _ => ⟨hi, wI (by omega) (by omega), hM1, hFr⟩⟩
  · rintro e m ⟨e0, e1, e2, e16, e17, e18, hM, hF⟩
    have hc := ct_le n (by omega)
    have ht' := tc_le n (by omega)
    unfold b28_0
    simp -implicitDefEqProofs only [vqa, Nat.reduceEqDiff, Nat.reduceAdd, reduceIte, Nat.reduceLeDiff, Nat.reduceBEq, Nat.reduceLT, Nat.reduceSub, Int.reduceLT, Int.reduceLE, Int.reduceEq, Int.reduceToNat, Nat.reduceMul, eq_self, implies_true, forall_const, e0, e1, e2, e16, e17, e18]
    refine CallW.mono (tab n (by omega) (b + 100) hM ok (fun i hi => by have := hb i hi; omega) hg t ht x f hf hx) fun r m1 ⟨M', l, d, hr, hM1, hs, bl, hv, hF1⟩ => ?_
    subst hr
    simp -implicitDefEqProofs only [vqa, Nat.reduceEqDiff, Nat.reduceAdd, reduceIte, Nat.reduceLeDiff, Nat.reduceBEq, Nat.reduceLT, Nat.reduceSub, Int.reduceLT, Int.reduceLE, Int.reduceEq, Int.reduceToNat, Nat.reduceMul, eq_self, implies_true, forall_const, e0, e1, e2, e16, e17, e18]
    exact ⟨M', l, d, rfl, hM1.wide (fun i hi => hi.elim .inl fun q => .inr ⟨by omega, by omega⟩), hs, bl, hv, fun i hi hs => by rw [hF1 i (by omega) hs]; exact hF i hi hs⟩
end Go.Ab
