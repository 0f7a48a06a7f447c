/- Walks: span and table at one graph. -/
import Derived.Test.YtiecnmojbdogfaaSaCut3
import Derived.Test.YtiecnmojbdogfaaSaCut2
import Derived.Test.YtiecnmojbdogfaaSaGraph
set_option linter.unusedSimpArgs false
set_option linter.unusedVariables false
namespace Go.Ab
open Go
def b60_0 (b : Nat) : AC := (.seq (.seq (.ops [⟨(some 18), none, (.v (.mv (.t 10)))⟩, ⟨(some 19), none, (.v (.len (.t 18)))⟩, ⟨(some 20), none, (.v (.bin .gtr (.t 19) (.c (.int .i64 0))))⟩]) (.cond (.t 20) .skip (.exit 0))) (.block 1 (.seq (.ops [⟨(some 21), none, (.v (.mv (.t 10)))⟩, ⟨(some 22), none, (.v (.mv (.t 10)))⟩, ⟨(some 23), none, (.v (.len (.t 22)))⟩, ⟨(some 24), none, (.v (.bin .sub (.t 23) (.c (.int .i64 1))))⟩, ⟨(some 25), none, (.v (.idx 1 (.t 21) (.t 24)))⟩, ⟨(some 26), none, (.v (.load 1 false (.t 25)))⟩, ⟨(some 11), none, (.v (.mv (.t 26)))⟩]) (.seq (.ops [⟨(some 27), none, (.v (.mv (.t 10)))⟩, ⟨(some 28), none, (.v (.mv (.t 10)))⟩, ⟨(some 29), none, (.v (.len (.t 28)))⟩, ⟨(some 30), none, (.v (.bin .sub (.t 29) (.c (.int .i64 1))))⟩, ⟨(some 31), none, (.v (.slc 1 (.t 27) none (some (.t 30))))⟩, ⟨(some 10), none, (.v (.mv (.t 31)))⟩]) (.seq (.seq (.ops [⟨(some 32), none, (.v (.mv (.t 11)))⟩, ⟨(some 33), none, (.v (.bin .eql (.t 32) (.c (.int .i64 0))))⟩, ⟨(some 34), none, (.v (.mv (.t 33)))⟩, ⟨(some 35), (some (34, false)), (.v (.mv (.t 9)))⟩, ⟨(some 36), (some (34, false)), (.v (.mv (.t 11)))⟩, ⟨(some 37), (some (34, false)), (.v (.lku false (.int .i64) none (.t 35) (.t 36)))⟩, ⟨(some 38), none, (.v (.pick (.t 34) (.c (.bool true)) (.t 37)))⟩, ⟨(some 39), none, (.v (.mv (.t 38)))⟩, ⟨(some 40), (some (39, false)), (.v (.mv (.t 2)))⟩, ⟨(some 41), (some (39, false)), (.v (.mv (.t 11)))⟩, ⟨(some 42), (some (39, false)), (.call (.c (.fn 36 [])) [(.t 40), (.t 41)])⟩, ⟨(some 43), none, (.v (.pick (.t 39) (.c (.bool true)) (.t 42)))⟩]) (.cond (.t 43) (.exit 1) .skip)) (.seq (.seq (.ops [⟨(some 44), none, (.v (.mv (.t 11)))⟩, ⟨(some 45), none, (.v (.mv (.t 8)))⟩, ⟨(some 46), none, (.v (.bin .lss (.t 44) (.t 45)))⟩]) (.cond (.t 46) (.seq (.ops [⟨(some 6), none, (.v (.mv (.c .undef)))⟩, ⟨(some 7), none, (.v (.mv (.c (.bool false))))⟩]) .ret) .skip)) (.seq (.ops [⟨(some 47), none, (.v (.mv (.t 9)))⟩, ⟨(some 48), none, (.v (.mv (.t 11)))⟩, ⟨none, none, (.e (.mapup (.int .i64) none (.t 47) (.t 48) (.c (.bool true))))⟩]) (.seq (.ops [⟨(some 49), none, (.v (.fld 3 (.t 3)))⟩, ⟨(some 50), none, (.v (.load 1 false (.t 49)))⟩, ⟨(some 51), none, (.v (.mv (.t 11)))⟩, ⟨(some 52), none, (.v (.mv (.t 8)))⟩, ⟨(some 53), none, (.v (.bin .sub (.t 51) (.t 52)))⟩, ⟨(some 54), none, (.v (.idx 2 (.t 50) (.t 53)))⟩, ⟨(some 55), none, (.v (.load 2 true (.t 54)))⟩, ⟨(some 12), none, (.e (.alloc (b + 12) [(.int .i64 0), (.int .i64 0)]))⟩, ⟨none, none, (.e (.store 2 (.t 12) (.t 55)))⟩]) (.ops [⟨(some 56), none, (.v (.mv (.t 10)))⟩, ⟨(some 57), none, (.v (.fld 0 (.t 12)))⟩, ⟨(some 58), none, (.v (.load 1 false (.t 57)))⟩, ⟨(some 59), none, (.v (.bin .quo (.t 58) (.c (.int .i64 2))))⟩, ⟨(some 60), none, (.v (.fld 1 (.t 12)))⟩, ⟨(some 61), none, (.v (.load 1 false (.t 60)))⟩, ⟨(some 62), none, (.v (.bin .quo (.t 61) (.c (.int .i64 2))))⟩, ⟨(some 63), none, (.e (.lit (b + 63) 3 1 2 [(.int .i64 0)] [(0, (.t 59)), (1, (.t 62))]))⟩, ⟨(some 64), none, (.e (.app (b + 64) 3 1 8 (.t 56) (.t 63)))⟩, ⟨(some 10), none, (.v (.mv (.t 64)))⟩])))))))))
def b60 (b : Nat) : AC := (.seq (.ops [⟨(some 3), none, (.e (.box (b + 3) 0 (.t 0)))⟩, ⟨(some 6), none, (.v (.mv (.c .undef)))⟩, ⟨(some 7), none, (.v (.mv (.c (.bool false))))⟩]) (.seq (.ops [⟨(some 13), none, (.v (.load 5 true (.t 3)))⟩, ⟨(some 14), none, (.call (.c (.fn 58 [])) [(.t 13)])⟩, ⟨(some 8), none, (.v (.mv (.t 14)))⟩]) (.seq (.ops [⟨(some 15), none, (.e (.mkmap (b + 15) (.int .i64) none))⟩, ⟨(some 9), none, (.v (.mv (.t 15)))⟩]) (.seq (.ops [⟨(some 16), none, (.v (.mv (.t 1)))⟩, ⟨(some 17), none, (.e (.lit (b + 17) 3 1 1 [(.int .i64 0)] [(0, (.t 16))]))⟩, ⟨(some 10), none, (.v (.mv (.t 17)))⟩]) (.seq (.block 0 (.loop (b60_0 b))) (.seq (.ops [⟨(some 65), none, (.v (.mv (.t 9)))⟩, ⟨(some 6), none, (.v (.mv (.t 65)))⟩, ⟨(some 7), none, (.v (.mv (.c (.bool true))))⟩]) .ret))))))
def q60 : List AI := [(.mv (.t 6)), (.mv (.t 7))]
theorem g60 (b : Nat) : Fn PP 60 3 (b60 b) q60 := Fn.ofB b (fn := Go.Proofs.Try.f60) (by kernel_rfl) (by kernel_rfl) (by kernel_rfl)
def a61 : AC := (.seq (.ops [⟨(some 3), none, (.v (.mv (.c (.int .u64 0))))⟩]) (.seq (.seq (.ops [⟨(some 4), none, (.v (.mv (.t 0)))⟩, ⟨(some 5), none, (.v (.bin .rem (.t 4) (.c (.int .i64 2))))⟩, ⟨(some 6), none, (.v (.bin .eql (.t 5) (.c (.int .i64 1))))⟩]) (.cond (.t 6) (.seq (.ops [⟨(some 7), none, (.v (.load 1 false (.t 1)))⟩, ⟨(some 8), none, (.v (.mv (.t 0)))⟩, ⟨(some 9), none, (.v (.bin .quo (.t 8) (.c (.int .i64 2))))⟩, ⟨(some 10), none, (.v (.lku false (.int .i64) (some .u64) (.t 7) (.t 9)))⟩, ⟨(some 11), none, (.v (.bnot (.t 10)))⟩, ⟨(some 3), none, (.v (.mv (.t 11)))⟩]) .ret) .skip)) (.seq (.ops [⟨(some 12), none, (.v (.load 1 false (.t 1)))⟩, ⟨(some 13), none, (.v (.mv (.t 0)))⟩, ⟨(some 14), none, (.v (.bin .quo (.t 13) (.c (.int .i64 2))))⟩, ⟨(some 15), none, (.v (.lku false (.int .i64) (some .u64) (.t 12) (.t 14)))⟩, ⟨(some 3), none, (.v (.mv (.t 15)))⟩]) .ret)))
def r61 : List AI := [(.mv (.t 3))]
theorem f61 : Fn PP 61 2 a61 r61 := Fn.of (fn := Go.Proofs.Try.f61) (by kernel_rfl) (by kernel_rfl) (by kernel_rfl)
def a42_0 : AC := (.seq (.ops [⟨(some 33), none, (.v (.bin .lss (.t 32) (.t 31)))⟩]) (.seq (.cond (.t 33) .skip (.exit 0)) (.seq (.block 1 (.seq (.ops [⟨(some 34), none, (.v (.mv (.t 32)))⟩, ⟨(some 35), none, (.v (.idx 1 (.t 30) (.t 32)))⟩, ⟨(some 36), none, (.v (.load 1 false (.t 35)))⟩, ⟨(some 11), none, (.v (.mv (.t 34)))⟩, ⟨(some 12), none, (.v (.mv (.t 36)))⟩]) (.any [⟨(some 37), none, (.v (.load 1 false (.t 10)))⟩, ⟨(some 38), none, (.v (.mv (.t 12)))⟩, ⟨(some 39), none, (.v (.mv (.t 11)))⟩, ⟨(some 40), none, (.call (.c (.fn 11 [])) [(.t 39)])⟩, ⟨none, none, (.e (.mapup (.int .i64) (some .u64) (.t 37) (.t 38) (.t 40)))⟩] [[], [], [], [2], [0, 1, 3, 3, 0, 1, 2, 3]]))) (.ops [⟨(some 41), none, (.v (.bin .add (.t 32) (.c (.int .i64 1))))⟩, ⟨(some 32), none, (.v (.mv (.t 41)))⟩]))))
def a42_1 : AC := (.seq (.ops [⟨(some 47), none, (.next (.t 46))⟩, ⟨(some 48), none, (.v (.ext 0 (.t 47)))⟩]) (.seq (.cond (.t 48) .skip (.exit 2)) (.block 3 (.seq (.ops [⟨(some 49), none, (.e (.entry (.t 46)))⟩, ⟨(some 50), none, (.v (.ext 0 (.t 49)))⟩, ⟨(some 16), none, (.v (.mv (.t 50)))⟩]) (.ops [⟨(some 51), none, (.v (.mv (.t 15)))⟩, ⟨(some 52), none, (.v (.mv (.t 16)))⟩, ⟨(some 53), none, (.e (.lit 53 3 1 1 [(.int .i64 0)] [(0, (.t 52))]))⟩, ⟨(some 54), none, (.e (.app 54 3 1 8 (.t 51) (.t 53)))⟩, ⟨(some 15), none, (.v (.mv (.t 54)))⟩])))))
def a42_2 : AC := (.seq (.ops [⟨(some 60), none, (.v (.bin .lss (.t 59) (.t 58)))⟩]) (.seq (.cond (.t 60) .skip (.exit 4)) (.seq (.block 5 (.seq (.ops [⟨(some 61), none, (.v (.idx 1 (.t 57) (.t 59)))⟩, ⟨(some 62), none, (.v (.load 1 false (.t 61)))⟩, ⟨(some 18), none, (.v (.mv (.t 62)))⟩]) (.seq (.ops [⟨(some 63), none, (.v (.fld 3 (.t 3)))⟩, ⟨(some 64), none, (.v (.load 1 false (.t 63)))⟩, ⟨(some 65), none, (.v (.mv (.t 18)))⟩, ⟨(some 66), none, (.v (.mv (.t 14)))⟩, ⟨(some 67), none, (.v (.bin .sub (.t 65) (.t 66)))⟩, ⟨(some 68), none, (.v (.idx 2 (.t 64) (.t 67)))⟩, ⟨(some 69), none, (.v (.load 2 true (.t 68)))⟩, ⟨(some 19), none, (.e (.alloc 19 [(.int .i64 0), (.int .i64 0)]))⟩, ⟨none, none, (.e (.store 2 (.t 19) (.t 69)))⟩]) (.any [⟨(some 70), none, (.v (.load 1 false (.t 10)))⟩, ⟨(some 71), none, (.v (.mv (.t 18)))⟩, ⟨(some 72), none, (.v (.mv (.t 13)))⟩, ⟨(some 73), none, (.v (.fld 0 (.t 19)))⟩, ⟨(some 74), none, (.v (.load 1 false (.t 73)))⟩, ⟨(some 75), none, (.call (.t 72) [(.t 74)])⟩, ⟨(some 76), none, (.v (.mv (.t 13)))⟩, ⟨(some 77), none, (.v (.fld 1 (.t 19)))⟩, ⟨(some 78), none, (.v (.load 1 false (.t 77)))⟩, ⟨(some 79), none, (.call (.t 76) [(.t 78)])⟩, ⟨(some 80), none, (.v (.bin .and (.t 75) (.t 79)))⟩, ⟨none, none, (.e (.mapup (.int .i64) (some .u64) (.t 70) (.t 71) (.t 80)))⟩] [[], [], [], [], [3], [2, 4], [], [], [7], [6, 8, 5], [5, 9], [0, 1, 10, 9, 0, 1, 2, 3, 4, 5, 6, 7, 8, 9, 10]])))) (.ops [⟨(some 81), none, (.v (.bin .add (.t 59) (.c (.int .i64 1))))⟩, ⟨(some 59), none, (.v (.mv (.t 81)))⟩]))))
def a42 : AC := (.seq (.ops [⟨(some 3), none, (.e (.box 3 0 (.t 0)))⟩, ⟨(some 6), none, (.v (.mv (.c (.int .u64 0))))⟩, ⟨(some 7), none, (.v (.mv (.c (.bool false))))⟩]) (.seq (.ops [⟨(some 21), none, (.v (.load 5 true (.t 3)))⟩, ⟨(some 22), none, (.v (.mv (.t 1)))⟩, ⟨(some 23), none, (.v (.mv (.t 2)))⟩, ⟨(some 24), none, (.call (.c (.fn 60 [])) [(.t 21), (.t 22), (.t 23)])⟩, ⟨(some 20), none, (.v (.mv (.t 24)))⟩, ⟨(some 25), none, (.v (.ext 0 (.t 20)))⟩, ⟨(some 26), none, (.v (.ext 1 (.t 20)))⟩, ⟨(some 8), none, (.v (.mv (.t 25)))⟩, ⟨(some 9), none, (.v (.mv (.t 26)))⟩]) (.seq (.seq (.ops [⟨(some 27), none, (.v (.mv (.t 9)))⟩, ⟨(some 28), none, (.v (.not (.t 27)))⟩]) (.cond (.t 28) (.seq (.ops [⟨(some 6), none, (.v (.mv (.c (.int .u64 0))))⟩, ⟨(some 7), none, (.v (.mv (.c (.bool false))))⟩]) .ret) .skip)) (.seq (.ops [⟨(some 29), none, (.e (.mkmap 29 (.int .i64) (some .u64)))⟩, ⟨(some 10), none, (.e (.alloc 10 [.undef]))⟩, ⟨none, none, (.e (.store 1 (.t 10) (.t 29)))⟩]) (.seq (.seq (.ops [⟨(some 30), none, (.v (.mv (.t 2)))⟩, ⟨(some 31), none, (.v (.len (.t 30)))⟩, ⟨(some 32), none, (.v (.mv (.c (.int .i64 0))))⟩]) (.block 0 (.loop a42_0))) (.seq (.ops [⟨(some 42), none, (.v (.mkfn 61 [(.t 10)]))⟩, ⟨(some 13), none, (.v (.mv (.t 42)))⟩]) (.seq (.ops [⟨(some 43), none, (.v (.load 5 true (.t 3)))⟩, ⟨(some 44), none, (.call (.c (.fn 58 [])) [(.t 43)])⟩, ⟨(some 14), none, (.v (.mv (.t 44)))⟩]) (.seq (.ops [⟨(some 15), none, (.v (.mv (.c .cap0)))⟩]) (.seq (.seq (.ops [⟨(some 45), none, (.v (.mv (.t 8)))⟩, ⟨(some 46), none, (.e (.range 46 (.t 45)))⟩]) (.block 2 (.loop a42_1))) (.seq (.ops [⟨(some 55), none, (.v (.mv (.t 15)))⟩, ⟨(some 56), none, (.call (.c (.fn 62 [])) [(.t 55)])⟩]) (.seq (.seq (.ops [⟨(some 57), none, (.v (.mv (.t 15)))⟩, ⟨(some 58), none, (.v (.len (.t 57)))⟩, ⟨(some 59), none, (.v (.mv (.c (.int .i64 0))))⟩]) (.block 4 (.loop a42_2))) (.seq (.any [⟨(some 82), none, (.v (.load 1 false (.t 10)))⟩, ⟨(some 83), none, (.v (.mv (.t 1)))⟩, ⟨(some 84), none, (.v (.lku false (.int .i64) (some .u64) (.t 82) (.t 83)))⟩, ⟨(some 85), none, (.v (.mv (.t 2)))⟩, ⟨(some 86), none, (.v (.len (.t 85)))⟩, ⟨(some 87), none, (.call (.c (.fn 35 [])) [(.t 86)])⟩, ⟨(some 88), none, (.v (.bin .and (.t 84) (.t 87)))⟩, ⟨(some 6), none, (.v (.mv (.t 88)))⟩, ⟨(some 7), none, (.v (.mv (.c (.bool true))))⟩] [[], [], [0, 1], [], [3], [4], [2, 5], [6, 5, 0, 1, 2, 3, 4, 5, 6], [7, 0, 1, 2, 3, 4, 5, 6, 7]]) .ret))))))))))))
def r42 : List AI := [(.mv (.t 6)), (.mv (.t 7))]
theorem f42 : Fn PP 42 3 a42 r42 := Fn.of (fn := Go.Proofs.Try.f42) (by kernel_rfl) (by kernel_rfl) (by kernel_rfl)
/-- The graph of one and. -/
def cutG : Gra := ⟨2, fun i => if i = 0 then ⟨#[97]⟩ else ⟨#[98]⟩, 0, fun _ => ⟨#[]⟩, 0, fun _ => ⟨⟨#[]⟩, 0, false⟩, 1, fun _ => 2, fun _ => 5, 0, fun _ => 0⟩
theorem cutG_ok : cutG.Ok := ⟨by decide, by decide, by decide, by decide, by decide, fun i hi => by unfold cutG; dsimp only; split <;> decide, fun i hi => absurd hi (Nat.not_lt_zero _), fun i hi => absurd hi (Nat.not_lt_zero _), fun i hi => by unfold L64 cutG; dsimp only; omega, fun i hi => by unfold L64 cutG; dsimp only; omega, fun i hi => absurd hi (Nat.not_lt_zero _)⟩
theorem key3 (key : Value) : (bif keyEq key (.int .i64 3) then true else false) = true ↔ key = .int .i64 3 := by
  constructor
  · intro h
    cases hk : keyEq key (.int .i64 3) with
    | true => exact keyEq_true hk
    | false => rw [hk] at h; cases h
  · rintro rfl; rfl
/-- What is known before a turn of span's loop, k turns ahead of the end. -/
def SpI (b V3 V15 : Nat) (cs : List AV) (f : Nat → AV) (mem : Mem) (k : Nat) (e : Env) (m : Mem) : Prop :=
  e 2 = .fs 2 f ∧ e 3 = .ptr (b + 3) V3 0 ∧ e 8 = .int .i64 3 ∧ e 9 = .mp (b + 15) V15 ∧ m (b + 3) = .var V3 cs ∧ (∀ o, o < b → m o = mem o) ∧
  ∃ v n g p h, m (b + 17) = .row v 3 1 n g ∧ m (b + 15) = .map V15 (.int .i64) none p h ∧
    ((k = 3 ∧ e 10 = .sl (b + 17) v 1 ∧ n = 1 ∧ g 0 = .int .i64 3 ∧ (∀ key, p key = false) ∧ ∀ key, h key = 0) ∨
     (e 10 = .sl (b + 17) v k ∧ k ≤ 2 ∧ n = 2 ∧ g 0 = .int .i64 1 ∧ g 1 = .int .i64 2 ∧ h (.int .i64 1) = 0 ∧ h (.int .i64 2) = 0 ∧ ∀ key, p key = true ↔ key = .int .i64 3))
theorem p60 (b : Nat) {cs : List AV} (hG : GraC cs cutG) {f : Nat → AV} (hf : ∀ i, i < 2 → f i = .int .i64 ((i : Int) + 1)) (mem : Mem) :
    CallW PP 60 [.agg cs, .int .i64 3, .fs 2 f] mem fun r m => (∃ ver p g, r = .tup [.mp (b + 15) ver, .bool true] ∧ m (b + 15) = .map ver (.int .i64) none p g ∧ ∀ key, p key = true ↔ key = .int .i64 3) ∧ ∀ o, o < b → m o = mem o := by
  have p1 := p36 2 (fun i => (i : Int) + 1) f 1 hf (by decide)
  have p2 := p36 2 (fun i => (i : Int) + 1) f 2 hf (by decide)
  have p3 := p36 2 (fun i => (i : Int) + 1) f 3 hf (by decide)
  have pB := p58 hG cutG_ok
  obtain ⟨f0, f1, f2, f3, f4, rfl, g0, g1, g2, g3, g4⟩ := hG
  refine Fn.call fmix (g60 b) ?_
  unfold b60 q60
  simp -implicitDefEqProofs only [vqa, Nat.reduceEqDiff, Nat.reduceAdd, reduceIte, Nat.reduceLeDiff, Nat.reduceBEq, Nat.reduceLT, Nat.reduceSub, Int.reduceLT, Int.reduceLE, Int.reduceEq, Int.reduceToNat, Nat.reduceMul, eq_self, implies_true, forall_const]
  refine CallW.sc pB rfl ⟨⟨trivial, trivial, trivial, trivial, trivial, trivial⟩, trivial⟩ fun r hr => ⟨by subst hr; rfl, ?_⟩
  subst hr
  simp -implicitDefEqProofs only [vqa, Nat.reduceEqDiff, Nat.reduceAdd, reduceIte, Nat.reduceLeDiff, Nat.reduceBEq, Nat.reduceLT, Nat.reduceSub, Int.reduceLT, Int.reduceLE, Int.reduceEq, Int.reduceToNat, Nat.reduceMul, eq_self, implies_true, forall_const]
  generalize (mem (b + 17)).ver + 1 = V17
  generalize (mem (b + 15)).ver + 1 = V15
  generalize (mem (b + 3)).ver + 1 = V3
  have g3' : f3 0 = .agg [.int .i64 2, .int .i64 5] := g3 0 (by decide)
  refine vLoop (SpI b V3 V15 [.fs 2 f0, .fs 0 f1, .fs 0 f2, .fs 1 f3, .fs 0 f4] f mem) 3 ?_ ?_
  · unfold SpI
    simp -implicitDefEqProofs only [vqa, Nat.reduceEqDiff, Nat.reduceAdd, reduceIte, Nat.reduceLeDiff, Nat.reduceBEq, Nat.reduceLT, Nat.reduceSub, Int.reduceLT, Int.reduceLE, Int.reduceEq, Int.reduceToNat, Nat.reduceMul, eq_self, implies_true, forall_const]
    refine ⟨rfl, rfl, fun o ho => ?_, _, _, _, _, _, rfl, rfl, .inl (by simp)⟩
    rw [if_neg (by omega), if_neg (by omega), if_neg (by omega)]
  rintro k e m ⟨h2, h3, h8, h9, hm3, hfr, v, n, g, p, h, hr, hmp, ⟨rfl, h10, rfl, g0', hpp, hp⟩ | ⟨h10, hk, rfl, g0', g1', hp1, hp2, hp⟩⟩
  · unfold b60_0
    simp -implicitDefEqProofs only [vqa, Nat.reduceEqDiff, Nat.reduceAdd, reduceIte, Nat.reduceLeDiff, Nat.reduceBEq, Nat.reduceLT, Nat.reduceSub, Int.reduceLT, Int.reduceLE, Int.reduceEq, Int.reduceToNat, Nat.reduceMul, eq_self, implies_true, forall_const, h2, h3, h8, h9, h10, hm3, hr, hmp, hp, g0', show IntKind.i64.wrap (1 - 1) = 0 from rfl, show IntKind.i64.wrap (2 - 1) = 1 from rfl, show (0 : Int).toNat = 0 from rfl, show (1 : Int).toNat = 1 from rfl]
    refine CallW.sc p3 rfl ⟨trivial, trivial, trivial⟩ fun r ⟨t, hr, ht⟩ => ⟨by subst hr; rfl, ?_⟩
    have ht : t = false := by
      cases t with
      | false => rfl
      | true => obtain ⟨i, hi, hx⟩ := ht.1 rfl; omega
    subst ht hr
    simp -implicitDefEqProofs only [vqa, Nat.reduceEqDiff, Nat.reduceAdd, reduceIte, Nat.reduceLeDiff, Nat.reduceBEq, Nat.reduceLT, Nat.reduceSub, Int.reduceLT, Int.reduceLE, Int.reduceEq, Int.reduceToNat, Nat.reduceMul, eq_self, implies_true, forall_const, h2, h3, h8, h9, h10, hm3, hr, hmp, hp, g0', g3', show IntKind.i64.wrap (3 - 3) = 0 from rfl, show (0 : Int).toNat = 0 from rfl]
    refine ⟨by decide, by decide, 2, by decide, ?_⟩
    unfold SpI
    simp -implicitDefEqProofs only [vqa, Nat.reduceEqDiff, Nat.reduceAdd, reduceIte, Nat.reduceLeDiff, Nat.reduceBEq, Nat.reduceLT, Nat.reduceSub, Int.reduceLT, Int.reduceLE, Int.reduceEq, Int.reduceToNat, Nat.reduceMul, eq_self, implies_true, forall_const, h2, h3, h8, h9, h10, hm3, hr, hmp]
    refine ⟨fun o ho => ?_, _, _, _, _, _, rfl, rfl, .inr ⟨rfl, rfl, rfl, rfl, rfl, rfl, fun key => ?_⟩⟩
    · rw [if_neg (by omega), if_neg (by omega), if_neg (by omega), if_neg (by omega), if_neg (by omega)]
      exact hfr o ho
    · rw [hpp]; exact key3 key
  · unfold b60_0
    match k, hk, h10 with
    | 0, _, h10 =>
      simp -implicitDefEqProofs only [vqa, Nat.reduceEqDiff, Nat.reduceAdd, reduceIte, Nat.reduceLeDiff, Nat.reduceBEq, Nat.reduceLT, Nat.reduceSub, Int.reduceLT, Int.reduceLE, Int.reduceEq, Int.reduceToNat, Nat.reduceMul, eq_self, implies_true, forall_const, h2, h3, h8, h9, h10, hm3, hr, hmp, hp1, g0']
      exact ⟨⟨_, _, _, rfl, rfl, hp⟩, hfr⟩
    | 1, _, h10 =>
      simp -implicitDefEqProofs only [vqa, Nat.reduceEqDiff, Nat.reduceAdd, reduceIte, Nat.reduceLeDiff, Nat.reduceBEq, Nat.reduceLT, Nat.reduceSub, Int.reduceLT, Int.reduceLE, Int.reduceEq, Int.reduceToNat, Nat.reduceMul, eq_self, implies_true, forall_const, h2, h3, h8, h9, h10, hm3, hr, hmp, hp1, g0', show IntKind.i64.wrap (1 - 1) = 0 from rfl, show IntKind.i64.wrap (2 - 1) = 1 from rfl, show (0 : Int).toNat = 0 from rfl, show (1 : Int).toNat = 1 from rfl]
      refine CallW.sc p1 rfl ⟨trivial, trivial, trivial⟩ fun r ⟨t, hr, ht⟩ => ⟨by subst hr; rfl, ?_⟩
      obtain rfl : t = true := ht.2 ⟨0, by decide, by decide⟩
      subst hr
      simp -implicitDefEqProofs only [vqa, Nat.reduceEqDiff, Nat.reduceAdd, reduceIte, Nat.reduceLeDiff, Nat.reduceBEq, Nat.reduceLT, Nat.reduceSub, Int.reduceLT, Int.reduceLE, Int.reduceEq, Int.reduceToNat, Nat.reduceMul, eq_self, implies_true, forall_const, h2, h3, h8, h9, h10, hm3, hr, hmp]
      refine ⟨0, by decide, ?_⟩
      unfold SpI
      simp -implicitDefEqProofs only [vqa, Nat.reduceEqDiff, Nat.reduceAdd, reduceIte, Nat.reduceLeDiff, Nat.reduceBEq, Nat.reduceLT, Nat.reduceSub, Int.reduceLT, Int.reduceLE, Int.reduceEq, Int.reduceToNat, Nat.reduceMul, eq_self, implies_true, forall_const, h2, h3, h8, h9, h10, hm3, hr, hmp]
      exact ⟨hfr, _, _, _, _, _, rfl, rfl, .inr ⟨rfl, rfl, g0', g1', hp1, hp2, hp⟩⟩
    | 2, _, h10 =>
      simp -implicitDefEqProofs only [vqa, Nat.reduceEqDiff, Nat.reduceAdd, reduceIte, Nat.reduceLeDiff, Nat.reduceBEq, Nat.reduceLT, Nat.reduceSub, Int.reduceLT, Int.reduceLE, Int.reduceEq, Int.reduceToNat, Nat.reduceMul, eq_self, implies_true, forall_const, h2, h3, h8, h9, h10, hm3, hr, hmp, hp2, g1', show IntKind.i64.wrap (1 - 1) = 0 from rfl, show IntKind.i64.wrap (2 - 1) = 1 from rfl, show (0 : Int).toNat = 0 from rfl, show (1 : Int).toNat = 1 from rfl]
      refine CallW.sc p2 rfl ⟨trivial, trivial, trivial⟩ fun r ⟨t, hr, ht⟩ => ⟨by subst hr; rfl, ?_⟩
      obtain rfl : t = true := ht.2 ⟨1, by decide, by decide⟩
      subst hr
      simp -implicitDefEqProofs only [vqa, Nat.reduceEqDiff, Nat.reduceAdd, reduceIte, Nat.reduceLeDiff, Nat.reduceBEq, Nat.reduceLT, Nat.reduceSub, Int.reduceLT, Int.reduceLE, Int.reduceEq, Int.reduceToNat, Nat.reduceMul, eq_self, implies_true, forall_const, h2, h3, h8, h9, h10, hm3, hr, hmp]
      refine ⟨1, by decide, ?_⟩
      unfold SpI
      simp -implicitDefEqProofs only [vqa, Nat.reduceEqDiff, Nat.reduceAdd, reduceIte, Nat.reduceLeDiff, Nat.reduceBEq, Nat.reduceLT, Nat.reduceSub, Int.reduceLT, Int.reduceLE, Int.reduceEq, Int.reduceToNat, Nat.reduceMul, eq_self, implies_true, forall_const, h2, h3, h8, h9, h10, hm3, hr, hmp]
      exact ⟨hfr, _, _, _, _, _, rfl, rfl, .inr ⟨rfl, rfl, g0', g1', hp1, hp2, hp⟩⟩
theorem p61a {o v i w : Nat} {p : Value → Bool} {g : Value → Int} {mem : Mem} (ho : mem o = .var v [.mp i w]) (hi : mem i = .map w (.int .i64) (some .u64) p g) :
    CallW PP 61 [.int .i64 2, .ptr o v 0] mem fun r m => r = .int .u64 (g (.int .i64 1)) ∧ m = mem := by
  refine Fn.call fmix f61 ?_
  unfold a61 r61
  simp -implicitDefEqProofs only [vqa, Nat.reduceEqDiff, Nat.reduceAdd, reduceIte, Nat.reduceLeDiff, Nat.reduceBEq, Nat.reduceLT, Nat.reduceSub, Int.reduceLT, Int.reduceLE, Int.reduceEq, Int.reduceToNat, Nat.reduceMul, eq_self, implies_true, forall_const, ho, hi]
  exact ⟨by decide, fun h => absurd h (by decide), fun _ => ⟨by decide, rfl⟩⟩
theorem p61b {o v i w : Nat} {p : Value → Bool} {g : Value → Int} {mem : Mem} (ho : mem o = .var v [.mp i w]) (hi : mem i = .map w (.int .i64) (some .u64) p g) :
    CallW PP 61 [.int .i64 5, .ptr o v 0] mem fun r m => r = .int .u64 (bitop .xor .u64 (if IntKind.u64.signed = true then -1 else IntKind.u64.max) (g (.int .i64 2))) ∧ m = mem := by
  refine Fn.call fmix f61 ?_
  unfold a61 r61
  simp -implicitDefEqProofs only [vqa, Nat.reduceEqDiff, Nat.reduceAdd, reduceIte, Nat.reduceLeDiff, Nat.reduceBEq, Nat.reduceLT, Nat.reduceSub, Int.reduceLT, Int.reduceLE, Int.reduceEq, Int.reduceToNat, Nat.reduceMul, eq_self, implies_true, forall_const, ho, hi]
  exact ⟨by decide, fun _ => ⟨by decide, rfl⟩, fun h => absurd rfl h⟩
/-- A table of an input. -/
def TB (t : Int) (j : Nat) : Prop := U64 t ∧ ∀ k, k < 64 → bit t k = k.testBit j
theorem bit_two : ∀ j, j < 64 → bit 2 j = (j.testBit 0 && !j.testBit 1 && decide (j < 2 ^ 2)) := by decide +kernel
theorem bit_max : ∀ j, j < 64 → bit (if IntKind.u64.signed = true then -1 else IntKind.u64.max) j = true := by decide +kernel
theorem cut_two {a b : Int} (ha : TB a 0) (hb : TB b 1) : bitop .and .u64 (bitop .and .u64 a (bitop .xor .u64 (if IntKind.u64.signed = true then -1 else IntKind.u64.max) b)) (maskF 2) = 2 := by
  refine u64_ext (u64_and _ _) ⟨by decide, by decide⟩ fun j hj => ?_
  rw [bit_and, bit_and, bit_xorw, bit_max j hj, ha.2 j hj, hb.2 j hj, show bit (maskF 2) j = decide (j < 2 ^ 2) from maskF_bit 2 (by decide) j hj, bit_two j hj, Bool.true_bne]
theorem keyEq_i (a b : Int) : keyEq (.int .i64 a) (.int .i64 b) = decide (a = b) := by simp [keyEq]
theorem p42 {cs : List AV} (hG : GraC cs cutG) {f : Nat → AV} (hf : ∀ i, i < 2 → f i = .int .i64 ((i : Int) + 1)) : Pure PP 42 [.agg cs, .int .i64 3, .fs 2 f] fun r => r = .tup [.int .u64 2, .bool true] := by
  have pS := fun mem => p60 1000 hG hf mem
  have pB := p58 hG cutG_ok
  obtain ⟨f0, f1, f2, f3, f4, rfl, g0, g1, g2, g3, g4⟩ := hG
  have g3' : f3 0 = .agg [.int .i64 2, .int .i64 5] := g3 0 (by decide)
  refine Fn.pure fmix f42 ?_
  unfold a42 r42
  simp -implicitDefEqProofs only [vqa, Nat.reduceEqDiff, Nat.reduceAdd, reduceIte, Nat.reduceLeDiff, Nat.reduceBEq, Nat.reduceLT, Nat.reduceSub, Int.reduceLT, Int.reduceLE, Int.reduceEq, Int.reduceToNat, Nat.reduceMul, eq_self, implies_true, forall_const]
  refine (pS _).mono fun r m ⟨⟨v8, q8, h8, hr, hm8, hp⟩, hfr⟩ => ?_
  have hm3 := (hfr 3 (by decide)).trans (set_same 3 _ _)
  have hm8 : m 1015 = .map v8 (.int .i64) none q8 h8 := hm8
  subst hr
  clear hfr pS
  generalize (mem0 3).ver + 1 = V3 at *
  simp -implicitDefEqProofs only [vqa, Nat.reduceEqDiff, Nat.reduceAdd, reduceIte, Nat.reduceLeDiff, Nat.reduceBEq, Nat.reduceLT, Nat.reduceSub, Int.reduceLT, Int.reduceLE, Int.reduceEq, Int.reduceToNat, Nat.reduceMul, eq_self, implies_true, forall_const, hm3, hm8]
  generalize (m 29).ver + 1 = V29
  generalize (m 10).ver + 1 = V10
  refine vFor 2 (fun i e m => e 1 = .int .i64 3 ∧ e 2 = .fs 2 f ∧ e 3 = .ptr 3 V3 0 ∧ e 8 = .mp 1015 v8 ∧ e 10 = .ptr 10 V10 0 ∧ e 30 = .fs 2 f ∧ e 31 = .int .i64 2 ∧ e 32 = .int .i64 i ∧ m 3 = .var V3 [.fs 2 f0, .fs 0 f1, .fs 0 f2, .fs 1 f3, .fs 0 f4] ∧ m 10 = .var V10 [.mp 29 V29] ∧ m 1015 = .map v8 (.int .i64) none q8 h8 ∧
      ∃ p g, m 29 = .map V29 (.int .i64) (some .u64) p g ∧ ∀ j : Nat, j < i → TB (g (.int .i64 ((j : Int) + 1))) j) ?_ ?_ ?_
  · simp -implicitDefEqProofs only [vqa, Nat.reduceEqDiff, Nat.reduceAdd, reduceIte, Nat.reduceLeDiff, Nat.reduceBEq, Nat.reduceLT, Nat.reduceSub, Int.reduceLT, Int.reduceLE, Int.reduceEq, Int.reduceToNat, Nat.reduceMul, eq_self, implies_true, forall_const, hm3, hm8]
    exact ⟨rfl, _, _, rfl⟩
  · rintro i e m hi hi' ⟨h1, h2, h3, h8', h10, h30, h31, h32, m3, m10, m1015, p, g, m29, hg⟩
    unfold a42_0
    have hi2 : (i : Int) < 2 := by omega
    simp -implicitDefEqProofs only [vqa, Nat.reduceEqDiff, Nat.reduceAdd, reduceIte, Nat.reduceLeDiff, Nat.reduceBEq, Nat.reduceLT, Nat.reduceSub, Int.reduceLT, Int.reduceLE, Int.reduceEq, Int.reduceToNat, Nat.reduceMul, eq_self, implies_true, forall_const, h1, h2, h3, h8', h10, h30, h31, h32, m3, m10, m1015, m29, hf i hi, hi2]
    refine ⟨by omega, ?_⟩
    refine vAny [0, 1, 2, 3, 4] 4 allL rfl rfl ?_
    simp -implicitDefEqProofs only [vqa, Nat.reduceEqDiff, Nat.reduceAdd, reduceIte, Nat.reduceLeDiff, Nat.reduceBEq, Nat.reduceLT, Nat.reduceSub, Int.reduceLT, Int.reduceLE, Int.reduceEq, Int.reduceToNat, Nat.reduceMul, eq_self, implies_true, forall_const, h1, h2, h3, h8', h10, h30, h31, h32, m3, m10, m1015, m29, hi2]
    refine CallW.sc (p11 i) rfl ⟨trivial, trivial⟩ fun r ⟨t, hr, ht, _, htb⟩ => ⟨by subst hr; rfl, ?_⟩
    subst hr
    simp -implicitDefEqProofs only [vqa, Nat.reduceEqDiff, Nat.reduceAdd, reduceIte, Nat.reduceLeDiff, Nat.reduceBEq, Nat.reduceLT, Nat.reduceSub, Int.reduceLT, Int.reduceLE, Int.reduceEq, Int.reduceToNat, Nat.reduceMul, eq_self, implies_true, forall_const, h1, h2, h3, h8', h10, h30, h31, h32, m3, m10, m1015, m29, hi2]
    refine ⟨hi, wI (by omega) (by omega), _, _, rfl, fun j hj => ?_⟩
    by_cases e : j = i
    · subst e
      simp only [keyEq_i, decide_true, cond_true]
      exact ⟨ht, htb j (by omega) rfl⟩
    · simp only [keyEq_i, show ((j : Int) + 1 = (i : Int) + 1) = False from eq_false (by omega), decide_false, cond_false]
      exact hg j (by omega)
  rintro e m ⟨h1, h2, h3, h8', h10, h30, h31, h32, m3, m10, m1015, p, g, m29, hg⟩
  have h32 : e 32 = .int .i64 2 := h32
  unfold a42_0
  simp -implicitDefEqProofs only [vqa, Nat.reduceEqDiff, Nat.reduceAdd, reduceIte, Nat.reduceLeDiff, Nat.reduceBEq, Nat.reduceLT, Nat.reduceSub, Int.reduceLT, Int.reduceLE, Int.reduceEq, Int.reduceToNat, Nat.reduceMul, eq_self, implies_true, forall_const, h1, h2, h3, h8', h10, h30, h31, h32, m3, m10, m1015, m29]
  refine CallW.sc pB rfl ⟨⟨trivial, trivial, trivial, trivial, trivial, trivial⟩, trivial⟩ fun r hr => ⟨by subst hr; rfl, ?_⟩
  subst hr
  simp -implicitDefEqProofs only [vqa, Nat.reduceEqDiff, Nat.reduceAdd, reduceIte, Nat.reduceLeDiff, Nat.reduceBEq, Nat.reduceLT, Nat.reduceSub, Int.reduceLT, Int.reduceLE, Int.reduceEq, Int.reduceToNat, Nat.reduceMul, eq_self, implies_true, forall_const, h1, h2, h3, h8', h10, h30, h31, h32, m3, m10, m1015, m29]
  generalize (m 46).ver + 1 = V46
  refine vLoop (fun k e m => e 1 = .int .i64 3 ∧ e 2 = .fs 2 f ∧ e 3 = .ptr 3 V3 0 ∧ e 10 = .ptr 10 V10 0 ∧ e 13 = .fn 61 [.ptr 10 V10 0] ∧ e 14 = .int .i64 3 ∧ e 46 = .it 46 V46 ∧ m 3 = .var V3 [.fs 2 f0, .fs 0 f1, .fs 0 f2, .fs 1 f3, .fs 0 f4] ∧ m 10 = .var V10 [.mp 29 V29] ∧ m 29 = .map V29 (.int .i64) (some .u64) p g ∧
      ∃ q h c, m 46 = .iter V46 (.int .i64) none q h c ∧ ((k = 1 ∧ e 15 = .cap0 ∧ ∀ key, q key = true ↔ key = .int .i64 3) ∨ (k = 0 ∧ (∀ key, q key = false) ∧ ∃ v l, e 15 = .sl 54 v 1 ∧ m 54 = .row v 3 1 1 l ∧ l 0 = .int .i64 3))) 1 ?_ ?_
  · simp -implicitDefEqProofs only [vqa, Nat.reduceEqDiff, Nat.reduceAdd, reduceIte, Nat.reduceLeDiff, Nat.reduceBEq, Nat.reduceLT, Nat.reduceSub, Int.reduceLT, Int.reduceLE, Int.reduceEq, Int.reduceToNat, Nat.reduceMul, eq_self, implies_true, forall_const, h1, h2, h3, h8', h10, h30, h31, h32, m3, m10, m1015, m29]
    exact ⟨rfl, _, _, _, rfl, .inl hp⟩
  rintro k e m ⟨h1, h2, h3, h10, h13, h14, h46, m3, m10, m29, q, h, c, m46, ⟨rfl, h15, hq⟩ | ⟨rfl, hq, v, l, h15, m54, hl⟩⟩
  · unfold a42_1
    simp -implicitDefEqProofs only [vqa, Nat.reduceEqDiff, Nat.reduceAdd, reduceIte, Nat.reduceLeDiff, Nat.reduceBEq, Nat.reduceLT, Nat.reduceSub, Int.reduceLT, Int.reduceLE, Int.reduceEq, Int.reduceToNat, Nat.reduceMul, eq_self, implies_true, forall_const, aNx, nxI m46, h1, h2, h3, h10, h13, h14, h46, m3, m10, m29, m46, h15]
    refine ⟨fun hno => ?_, fun key hk => ?_⟩
    · have := (hq (.int .i64 3)).2 rfl
      rw [hno] at this
      cases this
    · obtain rfl := (hq key).1 hk
      simp -implicitDefEqProofs only [vqa, Nat.reduceEqDiff, Nat.reduceAdd, reduceIte, Nat.reduceLeDiff, Nat.reduceBEq, Nat.reduceLT, Nat.reduceSub, Int.reduceLT, Int.reduceLE, Int.reduceEq, Int.reduceToNat, Nat.reduceMul, eq_self, implies_true, forall_const, cv, cvs, h1, h2, h3, h10, h13, h14, h46, m3, m10, m29, m46, h15]
      refine ⟨0, by decide, _, _, _, rfl, .inr ⟨rfl, fun key => ?_, _, _, rfl, rfl, rfl⟩⟩
      cases hk : keyEq key (.int .i64 3) with
      | true => rfl
      | false =>
        show q key = false
        cases hqk : q key with
        | false => rfl
        | true => rw [(hq key).1 hqk] at hk; cases hk
  · unfold a42_1
    simp -implicitDefEqProofs only [vqa, Nat.reduceEqDiff, Nat.reduceAdd, reduceIte, Nat.reduceLeDiff, Nat.reduceBEq, Nat.reduceLT, Nat.reduceSub, Int.reduceLT, Int.reduceLE, Int.reduceEq, Int.reduceToNat, Nat.reduceMul, eq_self, implies_true, forall_const, aNx, nxI m46, h1, h2, h3, h10, h13, h14, h46, m3, m10, m29, m46, h15, m54]
    refine ⟨fun _ => ?_, fun key hk => absurd hk (by rw [hq]; decide)⟩
    refine CallW.sc (p62 l) ?_ ?_ fun r hr => ⟨by subst hr; rfl, ?_⟩
    · simp only [rsC, rs2, rs1, rs0, vqa, Nat.reduceEqDiff, Nat.reduceAdd, reduceIte, Nat.reduceLeDiff, Nat.reduceBEq, Nat.reduceLT, Nat.reduceSub, Int.reduceLT, Int.reduceLE, Int.reduceEq, Int.reduceToNat, Nat.reduceMul, eq_self, implies_true, forall_const, m54]
    · simp only [rsC, rs2, rs1, rs0, vqa, Nat.reduceEqDiff, Nat.reduceAdd, reduceIte, Nat.reduceLeDiff, Nat.reduceBEq, Nat.reduceLT, Nat.reduceSub, Int.reduceLT, Int.reduceLE, Int.reduceEq, Int.reduceToNat, Nat.reduceMul, eq_self, implies_true, forall_const, m54]
    subst hr
    simp -implicitDefEqProofs only [vqa, Nat.reduceEqDiff, Nat.reduceAdd, reduceIte, Nat.reduceLeDiff, Nat.reduceBEq, Nat.reduceLT, Nat.reduceSub, Int.reduceLT, Int.reduceLE, Int.reduceEq, Int.reduceToNat, Nat.reduceMul, eq_self, implies_true, forall_const, h1, h2, h3, h10, h13, h14, h46, m3, m10, m29, h15, m54]
    refine vFor 1 (fun i e m => e 1 = .int .i64 3 ∧ e 2 = .fs 2 f ∧ e 3 = .ptr 3 V3 0 ∧ e 10 = .ptr 10 V10 0 ∧ e 13 = .fn 61 [.ptr 10 V10 0] ∧ e 14 = .int .i64 3 ∧ e 57 = .sl 54 v 1 ∧ e 58 = .int .i64 1 ∧ e 59 = .int .i64 i ∧ m 3 = .var V3 [.fs 2 f0, .fs 0 f1, .fs 0 f2, .fs 1 f3, .fs 0 f4] ∧ m 10 = .var V10 [.mp 29 V29] ∧ m 54 = .row v 3 1 1 l ∧
      ((i = 0 ∧ m 29 = .map V29 (.int .i64) (some .u64) p g) ∨ i = 1 ∧ ∃ p' g', m 29 = .map V29 (.int .i64) (some .u64) p' g' ∧ g' (.int .i64 3) = bitop .and .u64 (g (.int .i64 1)) (bitop .xor .u64 (if IntKind.u64.signed = true then -1 else IntKind.u64.max) (g (.int .i64 2))))) ?_ ?_ ?_
    · simp -implicitDefEqProofs only [vqa, Nat.reduceEqDiff, Nat.reduceAdd, reduceIte, Nat.reduceLeDiff, Nat.reduceBEq, Nat.reduceLT, Nat.reduceSub, Int.reduceLT, Int.reduceLE, Int.reduceEq, Int.reduceToNat, Nat.reduceMul, eq_self, implies_true, forall_const, h1, h2, h3, h10, h13, h14, m3, m10, m29, h15, m54]
      exact .inl trivial
    · rintro i e m hi hi' ⟨h1, h2, h3, h10, h13, h14, h57, h58, h59, m3, m10, m54, hA⟩
      obtain rfl : i = 0 := by omega
      have m29 : m 29 = .map V29 (.int .i64) (some .u64) p g := by
        rcases hA with ⟨_, h⟩ | ⟨h, _⟩
        · exact h
        · cases h
      have h59 : e 59 = .int .i64 0 := h59
      unfold a42_2
      simp -implicitDefEqProofs only [vqa, Nat.reduceEqDiff, Nat.reduceAdd, reduceIte, Nat.reduceLeDiff, Nat.reduceBEq, Nat.reduceLT, Nat.reduceSub, Int.reduceLT, Int.reduceLE, Int.reduceEq, Int.reduceToNat, Nat.reduceMul, eq_self, implies_true, forall_const, h1, h2, h3, h10, h13, h14, h57, h58, h59, m3, m10, m54, hl, g3', show (0 : Int).toNat = 0 from rfl, show IntKind.i64.wrap (3 - 3) = 0 from rfl]
      refine vAny [0, 1, 2, 3, 4, 6, 7, 8, 5, 9, 10, 11] 11 allL rfl rfl ?_
      simp -implicitDefEqProofs only [vqa, Nat.reduceEqDiff, Nat.reduceAdd, reduceIte, Nat.reduceLeDiff, Nat.reduceBEq, Nat.reduceLT, Nat.reduceSub, Int.reduceLT, Int.reduceLE, Int.reduceEq, Int.reduceToNat, Nat.reduceMul, eq_self, implies_true, forall_const, h1, h2, h3, h10, h13, h14, h57, h58, h59, m3, m10, m54, hl, g3']
      refine (p61a (o := 10) (i := 29) (w := V29) (p := p) (g := g) ?_ ?_).mono fun r m' ⟨hr, hm⟩ => ?_
      · simp -implicitDefEqProofs only [vqa, Nat.reduceEqDiff, Nat.reduceAdd, reduceIte, Nat.reduceLeDiff, Nat.reduceBEq, Nat.reduceLT, Nat.reduceSub, Int.reduceLT, Int.reduceLE, Int.reduceEq, Int.reduceToNat, Nat.reduceMul, eq_self, implies_true, forall_const, m10]
      · simp -implicitDefEqProofs only [vqa, Nat.reduceEqDiff, Nat.reduceAdd, reduceIte, Nat.reduceLeDiff, Nat.reduceBEq, Nat.reduceLT, Nat.reduceSub, Int.reduceLT, Int.reduceLE, Int.reduceEq, Int.reduceToNat, Nat.reduceMul, eq_self, implies_true, forall_const, m29]
      subst hr hm
      simp -implicitDefEqProofs only [vqa, Nat.reduceEqDiff, Nat.reduceAdd, reduceIte, Nat.reduceLeDiff, Nat.reduceBEq, Nat.reduceLT, Nat.reduceSub, Int.reduceLT, Int.reduceLE, Int.reduceEq, Int.reduceToNat, Nat.reduceMul, eq_self, implies_true, forall_const, h1, h2, h3, h10, h13, h14, h57, h58, h59, m3, m10, m54, m29]
      refine (p61b (o := 10) (i := 29) (w := V29) (p := p) (g := g) ?_ ?_).mono fun r m' ⟨hr, hm⟩ => ?_
      · simp -implicitDefEqProofs only [vqa, Nat.reduceEqDiff, Nat.reduceAdd, reduceIte, Nat.reduceLeDiff, Nat.reduceBEq, Nat.reduceLT, Nat.reduceSub, Int.reduceLT, Int.reduceLE, Int.reduceEq, Int.reduceToNat, Nat.reduceMul, eq_self, implies_true, forall_const, m10]
      · simp -implicitDefEqProofs only [vqa, Nat.reduceEqDiff, Nat.reduceAdd, reduceIte, Nat.reduceLeDiff, Nat.reduceBEq, Nat.reduceLT, Nat.reduceSub, Int.reduceLT, Int.reduceLE, Int.reduceEq, Int.reduceToNat, Nat.reduceMul, eq_self, implies_true, forall_const, m29]
      subst hr hm
      simp -implicitDefEqProofs only [vqa, Nat.reduceEqDiff, Nat.reduceAdd, reduceIte, Nat.reduceLeDiff, Nat.reduceBEq, Nat.reduceLT, Nat.reduceSub, Int.reduceLT, Int.reduceLE, Int.reduceEq, Int.reduceToNat, Nat.reduceMul, eq_self, implies_true, forall_const, h1, h2, h3, h10, h13, h14, h57, h58, h59, m3, m10, m54, m29]
      exact ⟨rfl, .inr ⟨_, _, rfl, rfl⟩⟩
    · rintro e m ⟨h1, h2, h3, h10, h13, h14, h57, h58, h59, m3, m10, m54, ⟨h, _⟩ | ⟨_, p', g', m29, hg'⟩⟩
      · cases h
      have h59 : e 59 = .int .i64 1 := h59
      unfold a42_2
      simp -implicitDefEqProofs only [vqa, Nat.reduceEqDiff, Nat.reduceAdd, reduceIte, Nat.reduceLeDiff, Nat.reduceBEq, Nat.reduceLT, Nat.reduceSub, Int.reduceLT, Int.reduceLE, Int.reduceEq, Int.reduceToNat, Nat.reduceMul, eq_self, implies_true, forall_const, h1, h2, h3, h10, h13, h14, h57, h58, h59, m3, m10, m54]
      refine vAny [0, 1, 2, 3, 4, 5, 6, 7, 8] 9 allL rfl rfl ?_
      simp -implicitDefEqProofs only [vqa, Nat.reduceEqDiff, Nat.reduceAdd, reduceIte, Nat.reduceLeDiff, Nat.reduceBEq, Nat.reduceLT, Nat.reduceSub, Int.reduceLT, Int.reduceLE, Int.reduceEq, Int.reduceToNat, Nat.reduceMul, eq_self, implies_true, forall_const, h1, h2, h3, h10, h13, h14, h57, h58, h59, m3, m10, m54, m29]
      refine CallW.sc (p35 2) rfl ⟨trivial, trivial⟩ fun r hr => ⟨by subst hr; rfl, ?_⟩
      subst hr
      simp -implicitDefEqProofs only [vqa, Nat.reduceEqDiff, Nat.reduceAdd, reduceIte, Nat.reduceLeDiff, Nat.reduceBEq, Nat.reduceLT, Nat.reduceSub, Int.reduceLT, Int.reduceLE, Int.reduceEq, Int.reduceToNat, Nat.reduceMul, eq_self, implies_true, forall_const, h1, h2, h3, h10, h13, h14, h57, h58, h59, m3, m10, m54, m29, hg']
      have hc := cut_two (a := g (.int .i64 1)) (b := g (.int .i64 2)) (hg 0 (by decide)) (hg 1 (by decide))
      rw [hc]
end Go.Ab
