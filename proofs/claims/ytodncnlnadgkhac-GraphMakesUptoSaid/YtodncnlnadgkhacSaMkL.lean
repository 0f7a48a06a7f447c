/- The law GraphMakes. -/
import Derived.Test.YtodncnlnadgkhacSaMkA
import Derived.Test.YtodncnlnadgkhacSaMkN
import Derived.Test.YtodncnlnadgkhacSaMk15
import Derived.Test.YtodncnlnadgkhacLwMk
import Derived.Test.YtodncnlnadgkhacSaAsg
import Derived.Test.YtodncnlnadgkhacSaGr0
import Derived.Test.YtodncnlnadgkhacSaGFau0
import Derived.Test.YtodncnlnadgkhacSaGSheet
import Derived.Test.YtodncnlnadgkhacLwCone
import Derived.Test.YtodncnlnadgkhacSaEqB
set_option linter.unusedSimpArgs false
set_option linter.unusedVariables false
namespace Go.Ab
open Go
theorem call_join2 {P : Program} {d : Option Nat} {Q : AX → Env → Mem → Prop} {env : Env} {mem : Mem} {X b : AC} {l : List AOp} {v : AV} (G : Env → Mem → Prop) (h1 : callK P d (seqK P X (joinK G Q) .normal) l env v mem) (h2 : ∀ e m, G e m → awp P b Q e m) : callK P d (seqK P (.seq X b) Q .normal) l env v mem :=
  call_join G h1 h2
/-- The names and the first of them. -/
def NmA (c r : Nat) (x y : AV) (m : Mem) : Prop := (c + r = 0 ∧ x = .cap0 ∧ y = .cap0) ∨ ∃ V g, x = .sl 1048 V (c + r) ∧ y = .sl 1048 V c ∧ m 1048 = .row V 9 1 (c + r) g ∧ ∀ k, k < c + r → ∃ s, g k = .str s ∧ Wd k s
theorem Acc.frzN {s e sz n : Nat} {p : Nat → AV → Prop} {v : AV} {m : Mem} (h : Acc s e sz n p v m) : ∃ c v' m', frzA v m = some (c, v', m') ∧ c ∧ (∃ f, wk v' = .fs n f ∧ ∀ j, j < n → p j (f j)) ∧ ∀ o, o ≠ s → m' o = m o := by
  rcases h with ⟨rfl, rfl⟩ | ⟨ver, g, rfl, hm, hg⟩
  · exact ⟨True, .cap0, m, rfl, trivial, ⟨_, rfl, fun j hj => absurd hj (Nat.not_lt_zero _)⟩, fun _ _ => rfl⟩
  · exact ⟨ver = ver, .fs n g, Mem.set s (.dead (ver + 1)) m, by simp -implicitDefEqProofs only [vqa, Nat.reduceEqDiff, Nat.reduceAdd, reduceIte, Nat.reduceLeDiff, Nat.reduceBEq, Nat.reduceLT, Nat.reduceSub, Int.reduceLT, Int.reduceLE, Int.reduceEq, Int.reduceToNat, Nat.reduceMul, eq_self, implies_true, forall_const, hm], rfl, ⟨g, rfl, hg⟩, fun o ho => set_ne ho _ _⟩
theorem NmA.frz {c r : Nat} {x y : AV} {m : Mem} (h : NmA c r x y m) : ∃ c' v' m', frzA y m = some (c', v', m') ∧ c' ∧ (∃ f, wk v' = .fs c f ∧ ∀ j, j < c → ∃ s, f j = .str s ∧ Wd j s) ∧ ∀ o, o ≠ 1048 → m' o = m o := by
  rcases h with ⟨hz, rfl, rfl⟩ | ⟨V, g, rfl, rfl, hm, hg⟩
  · obtain rfl : c = 0 := by omega
    exact ⟨True, .cap0, m, rfl, trivial, ⟨_, rfl, fun j hj => absurd hj (Nat.not_lt_zero _)⟩, fun _ _ => rfl⟩
  · exact ⟨V = V, .fs c g, Mem.set 1048 (.dead (V + 1)) m, by simp -implicitDefEqProofs only [vqa, Nat.reduceEqDiff, Nat.reduceAdd, reduceIte, Nat.reduceLeDiff, Nat.reduceBEq, Nat.reduceLT, Nat.reduceSub, Int.reduceLT, Int.reduceLE, Int.reduceEq, Int.reduceToNat, Nat.reduceMul, eq_self, implies_true, forall_const, hm], rfl, ⟨g, rfl, fun j hj => hg j (by omega)⟩, fun o ho => set_ne ho _ _⟩
theorem NmA.keep {c r : Nat} {x y : AV} {m m' : Mem} (h : NmA c r x y m) (hm : m' 1048 = m 1048) : NmA c r x y m' := by
  rcases h with h | ⟨V, g, h1, h2, h3, h4⟩
  · exact .inl h
  · exact .inr ⟨V, g, h1, h2, hm.trans h3, h4⟩
/-- The literals so far, and their values. -/
def LV (M : Mak) (x y : Nat → Bool) (g h : Nat → AV) (len : Nat) : Prop := ∀ j, j < len → ∃ l, M.bef l ∧ g j = .int .i64 l ∧ h j = .bool (M.lv x y l)
theorem LV.push {M : Mak} {x y : Nat → Bool} {g h : Nat → AV} {len : Nat} {l : Int} {q : Bool} (H : LV M x y g h len) (hl : M.bef l) (hq : M.lv x y l = q) : LV M x y (fun k => bif decide (k < len) then g k else [AV.int .i64 l].getD (k - len) .undef) (fun k => bif decide (k < len) then h k else [AV.bool q].getD (k - len) .undef) (len + 1) := fun j hj => by
  by_cases e : j < len
  · simp only [e, decide_true, cond_true]; exact H j e
  · obtain rfl : j = len := by omega
    simp only [Nat.lt_irrefl, decide_false, cond_false, Nat.sub_self, List.getD_cons_zero]
    exact ⟨l, hl, rfl, by rw [hq]⟩
theorem LV.pre {M M' : Mak} {x y : Nat → Bool} {g h : Nat → AV} {len : Nat} (H : LV M x y g h len) (hp : M.Pre M') : LV M' x y g h len := fun j hj => by
  obtain ⟨l, h1, h2, h3⟩ := H j hj
  exact ⟨l, hp.bef h1, h2, by rw [h3, hp.lv x y h1]⟩
/-- The orders of two appends. -/
def twoApps (a b c d e f g : Nat) : OT :=
  .fork (.step a (.fork (.step b (.fork (.step c (.step d (.step e (.step f (.step g .leaf))))) (.step d (.step c (.step e (.step f (.step g .leaf))))))) (.step d (.step b (.step c (.step e (.step f (.step g .leaf)))))))) (.step d (.step a (.step b (.step c (.step e (.step f (.step g .leaf)))))))
theorem skolN {α : Type} [Inhabited α] {p : Nat → α → Prop} {n : Nat} (h : ∀ i, i < n → ∃ a, p i a) : ∃ f : Nat → α, ∀ i, i < n → p i (f i) :=
  ⟨fun i => if hi : i < n then (h i hi).choose else default, fun i hi => by
    show p i (if hi : i < n then (h i hi).choose else default)
    rw [dif_pos hi]
    exact (h i hi).choose_spec⟩
theorem namesF_ok {s : Nat → ByteArray} {n : Nat} (h1 : ∀ i, i < n → nameOk (s i)) (h2 : ∀ i j, i < j → j < n → s i ≠ s j) : ∀ m, m ≤ n → namesF s m = 0
  | 0, _ => rfl
  | m + 1, hm => scan_step (namesF_ok h1 h2 m (by omega)) (nameAt_ok (h1 m (by omega)) fun ⟨j, hj, e⟩ => h2 j m hj (by omega) e)
theorem Wd.names {s : Nat → ByteArray} {n : Nat} (hn : n ≤ 676) (h : ∀ i, i < n → Wd i (s i)) : namesF s n = 0 :=
  namesF_ok (fun i hi => (h i hi).ok) (fun i j hij hj e => by
    have := Wd.inj (i := i) (j := j) (by omega) (by omega) (h i (by omega)) (by rw [e]; exact h j hj)
    omega) n (Nat.le_refl n)
theorem gra_lit (M : Mak) (nin : Nat → ByteArray) (rg : Nat → RegV) (no : Nat) (out : Nat → ByteArray) (nk : Nat) (o nx : Nat → Int) (x y : Nat → Bool) (l : Int) : litB (M.gra nin rg no out nk o nx) x y l = M.lv x y l := by
  unfold litB Mak.lv ofB nodeB Mak.nv
  rw [gb_congr (G := M.gra nin rg no out nk o nx) (H := M.gr) rfl rfl x y _ (fun k _ => ⟨rfl, rfl⟩)]
  rfl
def a3_0 : AC := (.seq (.ops [⟨(some 58), none, (.v (.bin .lss (.t 57) (.t 56)))⟩]) (.seq (.cond (.t 58) .skip (.exit 0)) (.seq (.block 1 (.seq (.ops [⟨(some 59), none, (.v (.mv (.t 57)))⟩, ⟨(some 12), none, (.v (.mv (.t 59)))⟩]) (.any [⟨(some 60), none, (.v (.fld 2 (.t 11)))⟩, ⟨(some 61), none, (.v (.load 1 false (.t 60)))⟩, ⟨(some 62), none, (.v (.mv (.t 10)))⟩, ⟨(some 63), none, (.v (.mv (.t 0)))⟩, ⟨(some 64), none, (.v (.mv (.t 12)))⟩, ⟨(some 65), none, (.v (.bin .add (.t 63) (.t 64)))⟩, ⟨(some 66), none, (.v (.idx 1 (.t 62) (.t 65)))⟩, ⟨(some 67), none, (.v (.load 1 false (.t 66)))⟩, ⟨(some 68), none, (.v (.build [(.str ⟨#[]⟩), (.int .i64 0), (.bool false)] [(0, (1, (.t 67)))]))⟩, ⟨(some 69), none, (.e (.lit 69 37 3 1 [(.str ⟨#[]⟩), (.int .i64 0), (.bool false)] [(0, (.t 68))]))⟩, ⟨(some 70), none, (.e (.app 70 37 3 32 (.t 61) (.t 69)))⟩, ⟨(some 71), none, (.v (.fld 2 (.t 11)))⟩, ⟨none, none, (.e (.store 1 (.t 71) (.t 70)))⟩] [[], [0], [], [], [], [3, 4], [2, 5], [6], [7], [8], [1, 9], [0, 1, 2, 3, 4, 5, 6, 7, 8, 9, 10], [11, 10, 10, 0, 1, 2, 3, 4, 5, 6, 7, 8, 9, 10]]))) (.ops [⟨(some 72), none, (.v (.bin .add (.t 57) (.c (.int .i64 1))))⟩, ⟨(some 57), none, (.v (.mv (.t 72)))⟩]))))
def a3_1 : AC := (.seq (.ops [⟨(some 93), none, (.v (.bin .lss (.t 92) (.t 91)))⟩]) (.seq (.cond (.t 93) .skip (.exit 2)) (.seq (.block 3 (.seq (.ops [⟨(some 94), none, (.v (.mv (.t 92)))⟩, ⟨(some 17), none, (.v (.mv (.t 94)))⟩]) (.any [⟨(some 95), none, (.v (.mv (.t 15)))⟩, ⟨(some 96), none, (.v (.mv (.t 13)))⟩, ⟨(some 97), none, (.v (.mv (.t 17)))⟩, ⟨(some 98), none, (.call (.c (.fn 11 [])) [(.t 96), (.t 97)])⟩, ⟨(some 99), none, (.e (.lit 99 35 1 1 [(.int .i64 0)] [(0, (.t 98))]))⟩, ⟨(some 100), none, (.e (.app 100 35 1 8 (.t 95) (.t 99)))⟩, ⟨(some 101), none, (.v (.mv (.t 16)))⟩, ⟨(some 102), none, (.v (.mv (.t 14)))⟩, ⟨(some 103), none, (.v (.mv (.t 17)))⟩, ⟨(some 104), none, (.v (.idx 1 (.t 102) (.t 103)))⟩, ⟨(some 105), none, (.v (.load 1 false (.t 104)))⟩, ⟨(some 106), none, (.e (.lit 106 4 1 1 [(.bool false)] [(0, (.t 105))]))⟩, ⟨(some 107), none, (.e (.app 107 4 1 1 (.t 101) (.t 106)))⟩, ⟨(some 15), none, (.v (.mv (.t 100)))⟩, ⟨(some 16), none, (.v (.mv (.t 107)))⟩] [[], [], [], [1, 2], [3], [0, 4, 3], [], [], [], [7, 8], [9], [10], [6, 11, 5], [5, 12, 0, 1, 2, 3, 4, 5], [12, 13, 0, 1, 2, 3, 4, 5, 6, 7, 8, 9, 10, 11, 12, 13]]))) (.ops [⟨(some 108), none, (.v (.bin .add (.t 92) (.c (.int .i64 1))))⟩, ⟨(some 92), none, (.v (.mv (.t 108)))⟩]))))
def a3_2 : AC := (.seq (.ops [⟨(some 111), none, (.v (.bin .lss (.t 110) (.t 109)))⟩]) (.seq (.cond (.t 111) .skip (.exit 4)) (.seq (.block 5 (.seq (.ops [⟨(some 112), none, (.v (.mv (.t 110)))⟩, ⟨(some 18), none, (.v (.mv (.t 112)))⟩]) (.any [⟨(some 113), none, (.v (.mv (.t 15)))⟩, ⟨(some 114), none, (.v (.mv (.t 13)))⟩, ⟨(some 115), none, (.v (.mv (.t 18)))⟩, ⟨(some 116), none, (.call (.c (.fn 12 [])) [(.t 114), (.t 115)])⟩, ⟨(some 117), none, (.e (.lit 117 35 1 1 [(.int .i64 0)] [(0, (.t 116))]))⟩, ⟨(some 118), none, (.e (.app 118 35 1 8 (.t 113) (.t 117)))⟩, ⟨(some 119), none, (.v (.mv (.t 16)))⟩, ⟨(some 120), none, (.v (.mv (.t 14)))⟩, ⟨(some 121), none, (.v (.mv (.t 0)))⟩, ⟨(some 122), none, (.v (.mv (.t 18)))⟩, ⟨(some 123), none, (.v (.bin .add (.t 121) (.t 122)))⟩, ⟨(some 124), none, (.v (.idx 1 (.t 120) (.t 123)))⟩, ⟨(some 125), none, (.v (.load 1 false (.t 124)))⟩, ⟨(some 126), none, (.e (.lit 126 4 1 1 [(.bool false)] [(0, (.t 125))]))⟩, ⟨(some 127), none, (.e (.app 127 4 1 1 (.t 119) (.t 126)))⟩, ⟨(some 15), none, (.v (.mv (.t 118)))⟩, ⟨(some 16), none, (.v (.mv (.t 127)))⟩] [[], [], [], [1, 2], [3], [0, 4, 3], [], [], [], [], [8, 9], [7, 10], [11], [12], [6, 13, 5], [5, 14, 0, 1, 2, 3, 4, 5], [14, 15, 0, 1, 2, 3, 4, 5, 6, 7, 8, 9, 10, 11, 12, 13, 14, 15]]))) (.ops [⟨(some 128), none, (.v (.bin .add (.t 110) (.c (.int .i64 1))))⟩, ⟨(some 110), none, (.v (.mv (.t 128)))⟩]))))
def a3_3 : AC := (.seq (.ops [⟨(some 136), none, (.v (.bin .lss (.t 135) (.t 134)))⟩]) (.seq (.cond (.t 136) .skip (.exit 6)) (.seq (.block 7 (.seq (.ops [⟨(some 137), none, (.v (.idx 5 (.t 133) (.t 135)))⟩, ⟨(some 138), none, (.v (.load 5 true (.t 137)))⟩, ⟨(some 20), none, (.e (.alloc 20 [(.int .i64 0), (.int .i64 0), (.int .i64 0), (.int .i64 0), (.int .u64 0)]))⟩, ⟨none, none, (.e (.store 5 (.t 20) (.t 138)))⟩]) (.seq (.any [⟨(some 139), none, (.v (.fld 1 (.t 20)))⟩, ⟨(some 140), none, (.v (.load 1 false (.t 139)))⟩, ⟨(some 141), none, (.v (.mv (.t 15)))⟩, ⟨(some 142), none, (.v (.len (.t 141)))⟩, ⟨(some 143), none, (.call (.c (.fn 6 [])) [(.t 140), (.t 142)])⟩, ⟨(some 144), none, (.v (.fld 2 (.t 20)))⟩, ⟨(some 145), none, (.v (.load 1 false (.t 144)))⟩, ⟨(some 146), none, (.v (.mv (.t 15)))⟩, ⟨(some 147), none, (.v (.len (.t 146)))⟩, ⟨(some 148), none, (.call (.c (.fn 6 [])) [(.t 145), (.t 147)])⟩, ⟨(some 149), none, (.v (.fld 3 (.t 20)))⟩, ⟨(some 150), none, (.v (.load 1 false (.t 149)))⟩, ⟨(some 151), none, (.v (.mv (.t 15)))⟩, ⟨(some 152), none, (.v (.len (.t 151)))⟩, ⟨(some 153), none, (.call (.c (.fn 6 [])) [(.t 150), (.t 152)])⟩, ⟨(some 21), none, (.v (.mv (.t 143)))⟩, ⟨(some 22), none, (.v (.mv (.t 148)))⟩, ⟨(some 23), none, (.v (.mv (.t 153)))⟩] [[], [0], [], [2], [1, 3], [], [5], [], [7], [6, 8, 4], [], [10], [], [12], [11, 13, 9], [4, 14, 0, 1, 2, 3, 4], [9, 15, 0, 1, 2, 3, 4, 5, 6, 7, 8, 9, 15], [14, 16, 0, 1, 2, 3, 4, 5, 6, 7, 8, 9, 10, 11, 12, 13, 14, 15, 16]]) (.seq (.ops [⟨(some 154), none, (.v (.mv (.t 13)))⟩, ⟨(some 155), none, (.call (.c (.fn 13 [])) [(.t 154)])⟩, ⟨(some 24), none, (.v (.mv (.t 155)))⟩]) (.seq (.any [⟨(some 157), none, (.v (.mv (.t 13)))⟩, ⟨(some 158), none, (.v (.load 5 true (.t 20)))⟩, ⟨(some 159), none, (.v (.mv (.t 15)))⟩, ⟨(some 160), none, (.v (.mv (.t 21)))⟩, ⟨(some 161), none, (.v (.idx 1 (.t 159) (.t 160)))⟩, ⟨(some 162), none, (.v (.load 1 false (.t 161)))⟩, ⟨(some 163), none, (.v (.mv (.t 15)))⟩, ⟨(some 164), none, (.v (.mv (.t 22)))⟩, ⟨(some 165), none, (.v (.idx 1 (.t 163) (.t 164)))⟩, ⟨(some 166), none, (.v (.load 1 false (.t 165)))⟩, ⟨(some 167), none, (.v (.mv (.t 15)))⟩, ⟨(some 168), none, (.v (.mv (.t 23)))⟩, ⟨(some 169), none, (.v (.idx 1 (.t 167) (.t 168)))⟩, ⟨(some 170), none, (.v (.load 1 false (.t 169)))⟩, ⟨(some 171), none, (.v (.build [(.int .i64 0), (.int .i64 0), (.int .i64 0)] [(0, (1, (.t 162))), (1, (1, (.t 166))), (2, (1, (.t 170)))]))⟩, ⟨(some 172), none, (.v (.mv (.t 16)))⟩, ⟨(some 173), none, (.v (.mv (.t 21)))⟩, ⟨(some 174), none, (.v (.idx 1 (.t 172) (.t 173)))⟩, ⟨(some 175), none, (.v (.load 1 false (.t 174)))⟩, ⟨(some 176), none, (.v (.mv (.t 16)))⟩, ⟨(some 177), none, (.v (.mv (.t 22)))⟩, ⟨(some 178), none, (.v (.idx 1 (.t 176) (.t 177)))⟩, ⟨(some 179), none, (.v (.load 1 false (.t 178)))⟩, ⟨(some 180), none, (.v (.mv (.t 16)))⟩, ⟨(some 181), none, (.v (.mv (.t 23)))⟩, ⟨(some 182), none, (.v (.idx 1 (.t 180) (.t 181)))⟩, ⟨(some 183), none, (.v (.load 1 false (.t 182)))⟩, ⟨(some 184), none, (.v (.build [(.bool false), (.bool false), (.bool false)] [(0, (1, (.t 175))), (1, (1, (.t 179))), (2, (1, (.t 183)))]))⟩, ⟨(some 185), none, (.call (.c (.fn 14 [])) [(.t 157), (.t 158), (.t 171), (.t 184)])⟩, ⟨(some 156), none, (.v (.mv (.t 185)))⟩, ⟨(some 186), none, (.v (.ext 0 (.t 156)))⟩, ⟨(some 187), none, (.v (.ext 1 (.t 156)))⟩, ⟨(some 25), none, (.v (.mv (.t 186)))⟩, ⟨(some 26), none, (.v (.mv (.t 187)))⟩] [[], [], [], [], [2, 3], [4], [], [], [6, 7], [8], [], [], [10, 11], [12], [5, 9, 13], [], [], [15, 16], [17], [], [], [19, 20], [21], [], [], [23, 24], [25], [18, 22, 26], [0, 1, 14, 27], [28], [29], [29], [30, 28, 0, 1, 2, 3, 4, 5, 6, 7, 8, 9, 10, 11, 12, 13, 14, 15, 16, 17, 18, 19, 20, 21, 22, 23, 24, 25, 26, 27, 28, 29, 30], [31, 32, 0, 1, 2, 3, 4, 5, 6, 7, 8, 9, 10, 11, 12, 13, 14, 15, 16, 17, 18, 19, 20, 21, 22, 23, 24, 25, 26, 27, 28, 29, 30, 31, 32]]) (.seq (.seq (.ops [⟨(some 188), none, (.v (.mv (.t 13)))⟩, ⟨(some 189), none, (.call (.c (.fn 13 [])) [(.t 188)])⟩, ⟨(some 190), none, (.v (.mv (.t 24)))⟩, ⟨(some 191), none, (.v (.bin .sub (.t 189) (.t 190)))⟩, ⟨(some 27), none, (.v (.mv (.t 191)))⟩]) (.seq (.ops [⟨(some 192), none, (.v (.mv (.t 27)))⟩, ⟨(some 193), none, (.v (.bin .lss (.t 192) (.c (.int .i64 0))))⟩, ⟨(some 194), none, (.v (.mv (.t 193)))⟩, ⟨(some 195), (some (194, false)), (.v (.mv (.t 27)))⟩, ⟨(some 196), (some (194, false)), (.v (.bin .gtr (.t 195) (.c (.int .i64 21))))⟩, ⟨(some 197), none, (.v (.pick (.t 194) (.c (.bool true)) (.t 196)))⟩]) (.cond (.t 197) (.seq (.ops [⟨(some 8), none, (.v (.mv (.c (.bool false))))⟩]) .ret) .skip))) (.ops [⟨(some 198), none, (.v (.mv (.t 15)))⟩, ⟨(some 199), none, (.v (.mv (.t 25)))⟩, ⟨(some 200), none, (.e (.lit 200 35 1 1 [(.int .i64 0)] [(0, (.t 199))]))⟩, ⟨(some 201), none, (.e (.app 201 35 1 8 (.t 198) (.t 200)))⟩, ⟨(some 202), none, (.v (.mv (.t 16)))⟩, ⟨(some 203), none, (.v (.mv (.t 26)))⟩, ⟨(some 204), none, (.e (.lit 204 4 1 1 [(.bool false)] [(0, (.t 203))]))⟩, ⟨(some 205), none, (.e (.app 205 4 1 1 (.t 202) (.t 204)))⟩, ⟨(some 15), none, (.v (.mv (.t 201)))⟩, ⟨(some 16), none, (.v (.mv (.t 205)))⟩]))))))) (.ops [⟨(some 206), none, (.v (.bin .add (.t 135) (.c (.int .i64 1))))⟩, ⟨(some 135), none, (.v (.mv (.t 206)))⟩]))))
def a3_4 : AC := (.seq (.ops [⟨(some 209), none, (.v (.bin .lss (.t 208) (.t 207)))⟩]) (.seq (.cond (.t 209) .skip (.exit 8)) (.seq (.block 9 (.seq (.ops [⟨(some 210), none, (.v (.mv (.t 208)))⟩, ⟨(some 29), none, (.v (.mv (.t 210)))⟩]) (.ops [⟨(some 211), none, (.v (.mv (.t 28)))⟩, ⟨(some 212), none, (.v (.mv (.t 15)))⟩, ⟨(some 213), none, (.v (.mv (.t 15)))⟩, ⟨(some 214), none, (.v (.len (.t 213)))⟩, ⟨(some 215), none, (.v (.bin .sub (.t 214) (.c (.int .i64 1))))⟩, ⟨(some 216), none, (.v (.mv (.t 29)))⟩, ⟨(some 217), none, (.v (.bin .sub (.t 215) (.t 216)))⟩, ⟨(some 218), none, (.v (.idx 1 (.t 212) (.t 217)))⟩, ⟨(some 219), none, (.v (.load 1 false (.t 218)))⟩, ⟨(some 220), none, (.e (.lit 220 35 1 1 [(.int .i64 0)] [(0, (.t 219))]))⟩, ⟨(some 221), none, (.e (.app 221 35 1 8 (.t 211) (.t 220)))⟩, ⟨(some 28), none, (.v (.mv (.t 221)))⟩]))) (.ops [⟨(some 222), none, (.v (.bin .add (.t 208) (.c (.int .i64 1))))⟩, ⟨(some 208), none, (.v (.mv (.t 222)))⟩]))))
def a3_5 : AC := (.seq (.ops [⟨(some 299), none, (.v (.bin .lss (.t 298) (.t 297)))⟩]) (.seq (.cond (.t 299) .skip (.exit 10)) (.seq (.block 11 (.seq (.ops [⟨(some 300), none, (.v (.mv (.t 298)))⟩, ⟨(some 37), none, (.v (.mv (.t 300)))⟩]) (.seq (.any [⟨(some 301), none, (.v (.mv (.t 36)))⟩, ⟨(some 302), none, (.v (.mv (.t 37)))⟩, ⟨(some 303), none, (.v (.idx 1 (.t 301) (.t 302)))⟩, ⟨(some 304), none, (.v (.load 1 false (.t 303)))⟩, ⟨(some 305), none, (.v (.mv (.t 16)))⟩, ⟨(some 306), none, (.v (.mv (.t 16)))⟩, ⟨(some 307), none, (.v (.len (.t 306)))⟩, ⟨(some 308), none, (.v (.bin .sub (.t 307) (.c (.int .i64 1))))⟩, ⟨(some 309), none, (.v (.mv (.t 37)))⟩, ⟨(some 310), none, (.v (.bin .sub (.t 308) (.t 309)))⟩, ⟨(some 311), none, (.v (.idx 1 (.t 305) (.t 310)))⟩, ⟨(some 312), none, (.v (.load 1 false (.t 311)))⟩, ⟨(some 313), none, (.v (.beq true (.t 304) (.t 312)))⟩] [[], [], [0, 1], [2], [], [], [5], [6], [], [7, 8], [4, 9], [10], [3, 11]]) (.cond (.t 313) (.seq (.ops [⟨(some 8), none, (.v (.mv (.c (.bool false))))⟩]) .ret) .skip)))) (.ops [⟨(some 314), none, (.v (.bin .add (.t 298) (.c (.int .i64 1))))⟩, ⟨(some 298), none, (.v (.mv (.t 314)))⟩]))))
def a3 : AC := (.seq (.ops [⟨(some 8), none, (.v (.mv (.c (.bool false))))⟩]) (.seq (.ops [⟨(some 38), none, (.v (.mv (.t 0)))⟩, ⟨(some 39), none, (.v (.mv (.t 1)))⟩, ⟨(some 40), none, (.e (.lit 40 3 1 2 [(.int .i64 0)] [(0, (.t 38)), (1, (.t 39))]))⟩, ⟨(some 41), none, (.v (.build [.cap0, (.int .i64 0)] [(0, (1, (.t 40)))]))⟩, ⟨(some 42), none, (.e (.box 42 0 (.t 41)))⟩, ⟨(some 9), none, (.v (.mv (.t 42)))⟩]) (.seq (.ops [⟨(some 43), none, (.v (.mv (.t 0)))⟩, ⟨(some 44), none, (.call (.c (.fn 6 [])) [(.t 43), (.c (.int .i64 6))])⟩, ⟨(some 45), none, (.v (.mv (.t 1)))⟩, ⟨(some 46), none, (.call (.c (.fn 6 [])) [(.t 45), (.c (.int .i64 4))])⟩, ⟨(some 0), none, (.v (.mv (.t 44)))⟩, ⟨(some 1), none, (.v (.mv (.t 46)))⟩]) (.seq (.ops [⟨(some 47), none, (.v (.mv (.t 9)))⟩, ⟨(some 48), none, (.v (.mv (.t 0)))⟩, ⟨(some 49), none, (.v (.mv (.t 1)))⟩, ⟨(some 50), none, (.v (.bin .add (.t 48) (.t 49)))⟩, ⟨(some 51), none, (.call (.c (.fn 7 [])) [(.t 47), (.t 50)])⟩, ⟨(some 10), none, (.v (.mv (.t 51)))⟩]) (.seq (.ops [⟨(some 52), none, (.v (.mv (.t 10)))⟩, ⟨(some 53), none, (.v (.mv (.t 0)))⟩, ⟨(some 54), none, (.v (.slc 1 (.t 52) none (some (.t 53))))⟩, ⟨(some 55), none, (.v (.build [.cap0, .cap0, .cap0, .cap0, .cap0] [(0, (1, (.t 54)))]))⟩, ⟨(some 11), none, (.e (.alloc 11 [.cap0, .cap0, .cap0, .cap0, .cap0]))⟩, ⟨none, none, (.e (.store 5 (.t 11) (.t 55)))⟩]) (.seq (.seq (.ops [⟨(some 56), none, (.v (.mv (.t 1)))⟩, ⟨(some 57), none, (.v (.mv (.c (.int .i64 0))))⟩]) (.block 0 (.loop a3_0))) (.seq (.ops [⟨(some 73), none, (.v (.fld 0 (.t 11)))⟩, ⟨(some 74), none, (.v (.load 1 false (.t 73)))⟩, ⟨(some 75), none, (.v (.fld 2 (.t 11)))⟩, ⟨(some 76), none, (.v (.load 1 false (.t 75)))⟩, ⟨(some 77), none, (.call (.c (.fn 8 [])) [(.t 74), (.t 76)])⟩, ⟨(some 13), none, (.v (.mv (.t 77)))⟩]) (.seq (.seq (.ops [⟨(some 78), none, (.call (.c (.fn 9 [])) [])⟩, ⟨(some 79), none, (.v (.not (.t 78)))⟩, ⟨(some 80), none, (.v (.mv (.t 79)))⟩, ⟨(some 81), (some (80, false)), (.v (.mv (.t 13)))⟩, ⟨(some 82), (some (80, false)), (.v (.pnil false (.t 81)))⟩, ⟨(some 83), none, (.v (.pick (.t 80) (.c (.bool true)) (.t 82)))⟩]) (.cond (.t 83) (.seq (.ops [⟨(some 8), none, (.v (.mv (.c (.bool false))))⟩]) .ret) .skip)) (.seq (.ops [⟨(some 84), none, (.v (.mv (.t 2)))⟩, ⟨(some 85), none, (.v (.mv (.t 0)))⟩, ⟨(some 86), none, (.v (.mv (.t 1)))⟩, ⟨(some 87), none, (.v (.bin .add (.t 85) (.t 86)))⟩, ⟨(some 88), none, (.call (.c (.fn 10 [])) [(.t 84), (.t 87)])⟩, ⟨(some 14), none, (.v (.mv (.t 88)))⟩]) (.seq (.ops [⟨(some 89), none, (.e (.lit 89 35 1 1 [(.int .i64 0)] [(0, (.c (.int .i64 1)))]))⟩, ⟨(some 90), none, (.e (.lit 90 4 1 1 [(.bool false)] [(0, (.c (.bool true)))]))⟩, ⟨(some 15), none, (.v (.mv (.t 89)))⟩, ⟨(some 16), none, (.v (.mv (.t 90)))⟩]) (.seq (.seq (.ops [⟨(some 91), none, (.v (.mv (.t 0)))⟩, ⟨(some 92), none, (.v (.mv (.c (.int .i64 0))))⟩]) (.block 2 (.loop a3_1))) (.seq (.seq (.ops [⟨(some 109), none, (.v (.mv (.t 1)))⟩, ⟨(some 110), none, (.v (.mv (.c (.int .i64 0))))⟩]) (.block 4 (.loop a3_2))) (.seq (.seq (.ops [⟨(some 129), none, (.v (.mv (.t 3)))⟩, ⟨(some 130), none, (.v (.mv (.t 3)))⟩, ⟨(some 131), none, (.v (.len (.t 130)))⟩, ⟨(some 132), none, (.v (.mn (.t 131) (.c (.int .i64 60))))⟩, ⟨(some 133), none, (.v (.slc 5 (.t 129) none (some (.t 132))))⟩, ⟨(some 134), none, (.v (.len (.t 133)))⟩, ⟨(some 135), none, (.v (.mv (.c (.int .i64 0))))⟩]) (.block 6 (.loop a3_3))) (.seq (.ops [⟨(some 28), none, (.v (.mv (.c .cap0)))⟩]) (.seq (.seq (.ops [⟨(some 207), none, (.v (.mv (.t 1)))⟩, ⟨(some 208), none, (.v (.mv (.c (.int .i64 0))))⟩]) (.block 8 (.loop a3_4))) (.seq (.ops [⟨(some 223), none, (.v (.mv (.t 15)))⟩, ⟨(some 224), none, (.v (.mv (.t 15)))⟩, ⟨(some 225), none, (.v (.len (.t 224)))⟩, ⟨(some 226), none, (.v (.mv (.t 15)))⟩, ⟨(some 227), none, (.v (.len (.t 226)))⟩, ⟨(some 228), none, (.v (.mn (.t 227) (.c (.int .i64 100))))⟩, ⟨(some 229), none, (.v (.bin .sub (.t 225) (.t 228)))⟩, ⟨(some 230), none, (.v (.slc 1 (.t 223) (some (.t 229)) none))⟩, ⟨(some 30), none, (.v (.mv (.t 230)))⟩]) (.seq (.ops [⟨(some 232), none, (.v (.mv (.t 13)))⟩, ⟨(some 233), none, (.v (.mv (.t 9)))⟩, ⟨(some 234), none, (.v (.mv (.t 30)))⟩, ⟨(some 235), none, (.v (.len (.t 234)))⟩, ⟨(some 236), none, (.call (.c (.fn 7 [])) [(.t 233), (.t 235)])⟩, ⟨(some 237), none, (.v (.mv (.t 30)))⟩, ⟨(some 238), none, (.v (.mv (.t 28)))⟩, ⟨(some 239), none, (.call (.c (.fn 15 [])) [(.t 232), (.t 236), (.t 237), (.t 238)])⟩, ⟨(some 231), none, (.v (.mv (.t 239)))⟩, ⟨(some 240), none, (.v (.ext 0 (.t 231)))⟩, ⟨(some 241), none, (.v (.ext 1 (.t 231)))⟩, ⟨(some 31), none, (.e (.alloc 31 [.cap0, .cap0, .cap0, .cap0, .cap0]))⟩, ⟨none, none, (.e (.store 5 (.t 31) (.t 240)))⟩, ⟨(some 32), none, (.v (.mv (.t 241)))⟩]) (.seq (.seq (.any [⟨(some 242), none, (.v (.mv (.t 32)))⟩, ⟨(some 243), none, (.v (.bin .neq (.t 242) (.c (.int .i64 0))))⟩, ⟨(some 244), none, (.v (.mv (.t 243)))⟩, ⟨(some 245), (some (244, false)), (.v (.load 5 true (.t 31)))⟩, ⟨(some 246), (some (244, false)), (.call (.c (.fn 16 [])) [(.t 245)])⟩, ⟨(some 247), (some (244, false)), (.v (.bin .neq (.t 246) (.c (.int .i64 0))))⟩, ⟨(some 248), none, (.v (.pick (.t 244) (.c (.bool true)) (.t 247)))⟩, ⟨(some 249), none, (.v (.mv (.t 248)))⟩, ⟨(some 250), (some (249, false)), (.v (.mv (.t 0)))⟩, ⟨(some 251), (some (249, false)), (.v (.bin .add (.c (.int .i64 1)) (.t 250)))⟩, ⟨(some 252), (some (249, false)), (.v (.mv (.t 1)))⟩, ⟨(some 253), (some (249, false)), (.v (.bin .add (.t 251) (.t 252)))⟩, ⟨(some 254), (some (249, false)), (.v (.fld 3 (.t 31)))⟩, ⟨(some 255), (some (249, false)), (.v (.load 1 false (.t 254)))⟩, ⟨(some 256), (some (249, false)), (.v (.len (.t 255)))⟩, ⟨(some 257), (some (249, false)), (.v (.bin .add (.t 253) (.t 256)))⟩, ⟨(some 258), (some (249, false)), (.v (.mv (.t 13)))⟩, ⟨(some 259), (some (249, false)), (.call (.c (.fn 13 [])) [(.t 258)])⟩, ⟨(some 260), (some (249, false)), (.v (.bin .neq (.t 257) (.t 259)))⟩, ⟨(some 261), none, (.v (.pick (.t 249) (.c (.bool true)) (.t 260)))⟩] [[], [0], [1], [2], [3, 2, 2], [4, 2], [2, 5], [6, 4], [7], [8, 7], [7], [9, 10, 7], [7], [12, 7], [13, 7], [11, 14, 7], [7], [16, 7, 7], [15, 17, 7], [7, 18]]) (.cond (.t 261) (.seq (.ops [⟨(some 8), none, (.v (.mv (.c (.bool false))))⟩]) .ret) .skip)) (.seq (.ops [⟨(some 263), none, (.v (.load 5 true (.t 31)))⟩, ⟨(some 264), none, (.call (.c (.fn 17 [])) [(.t 263)])⟩, ⟨(some 262), none, (.v (.mv (.t 264)))⟩, ⟨(some 265), none, (.v (.ext 0 (.t 262)))⟩, ⟨(some 266), none, (.v (.ext 1 (.t 262)))⟩, ⟨(some 33), none, (.e (.alloc 33 [.cap0, .cap0, .cap0, .cap0, .cap0]))⟩, ⟨none, none, (.e (.store 5 (.t 33) (.t 265)))⟩, ⟨(some 34), none, (.v (.mv (.t 266)))⟩]) (.seq (.any [⟨(some 268), none, (.v (.load 5 true (.t 31)))⟩, ⟨(some 269), none, (.v (.mv (.t 14)))⟩, ⟨(some 270), none, (.v (.mv (.t 0)))⟩, ⟨(some 271), none, (.v (.slc 1 (.t 269) none (some (.t 270))))⟩, ⟨(some 272), none, (.v (.mv (.t 14)))⟩, ⟨(some 273), none, (.v (.mv (.t 0)))⟩, ⟨(some 274), none, (.v (.slc 1 (.t 272) (some (.t 273)) none))⟩, ⟨(some 275), none, (.call (.c (.fn 18 [])) [(.t 268), (.t 271), (.t 274)])⟩, ⟨(some 267), none, (.v (.mv (.t 275)))⟩, ⟨(some 276), none, (.v (.ext 0 (.t 267)))⟩, ⟨(some 277), none, (.v (.ext 1 (.t 267)))⟩, ⟨(some 35), none, (.v (.mv (.t 276)))⟩, ⟨(some 36), none, (.v (.mv (.t 277)))⟩] [[], [], [], [1, 2], [], [], [4, 5], [0, 3, 6], [7], [8], [8], [9, 7, 0, 1, 2, 3, 4, 5, 6, 7, 8, 9], [10, 11, 0, 1, 2, 3, 4, 5, 6, 7, 8, 9, 10, 11]]) (.seq (.seq (.ops [⟨(some 278), none, (.v (.fld 3 (.t 33)))⟩, ⟨(some 279), none, (.v (.load 1 false (.t 278)))⟩, ⟨(some 280), none, (.v (.len (.t 279)))⟩, ⟨(some 281), none, (.v (.fld 3 (.t 31)))⟩, ⟨(some 282), none, (.v (.load 1 false (.t 281)))⟩, ⟨(some 283), none, (.v (.len (.t 282)))⟩, ⟨(some 284), none, (.v (.bin .neq (.t 280) (.t 283)))⟩, ⟨(some 285), none, (.v (.mv (.t 284)))⟩, ⟨(some 286), (some (285, false)), (.v (.mv (.t 35)))⟩, ⟨(some 287), (some (285, false)), (.v (.mv (.t 16)))⟩, ⟨(some 288), (some (285, false)), (.v (.mv (.t 16)))⟩, ⟨(some 289), (some (285, false)), (.v (.len (.t 288)))⟩, ⟨(some 290), (some (285, false)), (.v (.mv (.t 30)))⟩, ⟨(some 291), (some (285, false)), (.v (.len (.t 290)))⟩, ⟨(some 292), (some (285, false)), (.v (.bin .sub (.t 289) (.t 291)))⟩, ⟨(some 293), (some (285, false)), (.v (.slc 1 (.t 287) (some (.t 292)) none))⟩, ⟨(some 294), (some (285, false)), (.call (.c (.fn 19 [])) [(.t 286), (.t 293)])⟩, ⟨(some 295), (some (285, false)), (.v (.not (.t 294)))⟩, ⟨(some 296), none, (.v (.pick (.t 285) (.c (.bool true)) (.t 295)))⟩]) (.cond (.t 296) (.seq (.ops [⟨(some 8), none, (.v (.mv (.c (.bool false))))⟩]) .ret) .skip)) (.seq (.seq (.ops [⟨(some 297), none, (.v (.mv (.t 1)))⟩, ⟨(some 298), none, (.v (.mv (.c (.int .i64 0))))⟩]) (.block 10 (.loop a3_5))) (.seq (.ops [⟨(some 8), none, (.v (.mv (.c (.bool true))))⟩]) .ret)))))))))))))))))))))))
def r3 : List AI := [(.mv (.t 8))]
theorem f3 : Fn PP 3 4 a3 r3 := Fn.of (fn := Go.Proofs.Try.f3) (by kernel_rfl) (by kernel_rfl) (by kernel_rfl)
set_option maxHeartbeats 8000000 in
theorem p3 (ins regs k : Int) (n : Nat) (f : Nat → AV) (hf : ∀ i, i < n → ∃ w a b c t, f i = .agg [.int .i64 w, .int .i64 a, .int .i64 b, .int .i64 c, .int .u64 t] ∧ U64 t) (hn : n ≤ 1048576) :
    Pure PP 3 [.int .i64 ins, .int .i64 regs, .int .i64 k, .fs n f] fun r => r = .bool true := by
  refine Fn.pure fmix f3 ?_
  unfold a3 r3
  simp -implicitDefEqProofs only [vqa, Nat.reduceEqDiff, Nat.reduceAdd, reduceIte, Nat.reduceLeDiff, Nat.reduceBEq, Nat.reduceLT, Nat.reduceSub, Int.reduceLT, Int.reduceLE, Int.reduceEq, Int.reduceToNat, Nat.reduceMul, eq_self, implies_true, forall_const]
  refine CallW.sc (p6g ins 6 (by decide) (by decide)) rfl ⟨trivial, trivial, trivial⟩ fun r ⟨j, hr, q1, q2⟩ => ⟨by subst hr; rfl, ?_⟩
  subst hr
  obtain ⟨c, rfl⟩ : ∃ c : Nat, j = (c : Int) := ⟨j.toNat, by omega⟩
  have hc : c < 6 := by omega
  simp -implicitDefEqProofs only [vqa, Nat.reduceEqDiff, Nat.reduceAdd, reduceIte, Nat.reduceLeDiff, Nat.reduceBEq, Nat.reduceLT, Nat.reduceSub, Int.reduceLT, Int.reduceLE, Int.reduceEq, Int.reduceToNat, Nat.reduceMul, eq_self, implies_true, forall_const]
  refine CallW.sc (p6g regs 4 (by decide) (by decide)) rfl ⟨trivial, trivial, trivial⟩ fun r ⟨j, hr, q3, q4⟩ => ⟨by subst hr; rfl, ?_⟩
  subst hr
  obtain ⟨r, rfl⟩ : ∃ r : Nat, j = (r : Int) := ⟨j.toNat, by omega⟩
  have hr : r < 4 := by omega
  have wcr : IntKind.i64.wrap ((c : Int) + (r : Int)) = ((c + r : Nat) : Int) := by rw [wI (by omega) (by omega)]; omega
  simp -implicitDefEqProofs only [vqa, Nat.reduceEqDiff, Nat.reduceAdd, reduceIte, Nat.reduceLeDiff, Nat.reduceBEq, Nat.reduceLT, Nat.reduceSub, Int.reduceLT, Int.reduceLE, Int.reduceEq, Int.reduceToNat, Nat.reduceMul, eq_self, implies_true, forall_const, wcr]
  generalize (mem0 40).ver + 1 = V40
  generalize (mem0 42).ver + 1 = V42
  refine (p7 1000 (o := 42) (id := 40) (by decide) (by decide) (set_same _ _ _) ((set_ne (by decide) _ _).trans (set_same _ _ _)) (fun i hi => by rcases (show i = 0 ∨ i = 1 by omega) with rfl | rfl <;> exact ⟨_, rfl⟩) (Int.le_refl 0) (by decide) (c + r) (by omega)).mono fun q m1 ⟨⟨a1, m42, l1, l2⟩, hA, hK⟩ => ?_
  have m40 : m1 40 = .row V40 3 1 2 fun i => [AV.int .i64 ins, AV.int .i64 regs].getD i .undef := (hK 40 (by decide) (by decide)).trans ((set_ne (by decide) _ _).trans (set_same _ _ _))
  clear hK
  refine call_join2 (fun e m => e 0 = .int .i64 c ∧ e 1 = .int .i64 r ∧ e 2 = .int .i64 k ∧ e 3 = .fs n f ∧ e 9 = .ptr 42 V42 0 ∧ m 42 = .var V42 [.sl 40 V40 2, .int .i64 a1] ∧ m 40 = (.row V40 3 1 2 fun i => [AV.int .i64 ins, AV.int .i64 regs].getD i .undef) ∧ ∃ V11 y, e 11 = .ptr 11 V11 0 ∧ m 11 = .var V11 [y, .cap0, .cap0, .cap0, .cap0] ∧ NmA c r (e 10) y m) ?_ ?_
  · rcases hA with ⟨hz, rfl⟩ | ⟨V, g, rfl, hm, hg⟩
    · simp -implicitDefEqProofs only [vqa, Nat.reduceEqDiff, Nat.reduceAdd, reduceIte, Nat.reduceLeDiff, Nat.reduceBEq, Nat.reduceLT, Nat.reduceSub, Int.reduceLT, Int.reduceLE, Int.reduceEq, Int.reduceToNat, Nat.reduceMul, eq_self, implies_true, forall_const, m42, m40]
      exact ⟨by omega, _, _, rfl, rfl, .inl ⟨hz, rfl, rfl⟩⟩
    · simp -implicitDefEqProofs only [vqa, Nat.reduceEqDiff, Nat.reduceAdd, reduceIte, Nat.reduceLeDiff, Nat.reduceBEq, Nat.reduceLT, Nat.reduceSub, Int.reduceLT, Int.reduceLE, Int.reduceEq, Int.reduceToNat, Nat.reduceMul, eq_self, implies_true, forall_const, m42, m40, hm]
      exact ⟨⟨by omega, by omega⟩, _, _, rfl, rfl, .inr ⟨V, g, rfl, rfl, by rw [set_ne (by decide), set_ne (by decide)]; exact hm, hg⟩⟩
  · rintro e m ⟨e0, e1, e2, e3, e9, m42, m40, V11, y, e11, m11, hN⟩
    simp -implicitDefEqProofs only [vqa, Nat.reduceEqDiff, Nat.reduceAdd, reduceIte, Nat.reduceLeDiff, Nat.reduceBEq, Nat.reduceLT, Nat.reduceSub, Int.reduceLT, Int.reduceLE, Int.reduceEq, Int.reduceToNat, Nat.reduceMul, eq_self, implies_true, forall_const, e0, e1, e2, e3, e9, m42, m40, e11, m11]
    refine vFor r (fun i e m => e 0 = .int .i64 c ∧ e 1 = .int .i64 r ∧ e 2 = .int .i64 k ∧ e 3 = .fs n f ∧ e 9 = .ptr 42 V42 0 ∧ m 42 = .var V42 [.sl 40 V40 2, .int .i64 a1] ∧ m 40 = (.row V40 3 1 2 fun i => [AV.int .i64 ins, AV.int .i64 regs].getD i .undef) ∧ e 11 = .ptr 11 V11 0 ∧ e 56 = .int .i64 r ∧ e 57 = .int .i64 i ∧ NmA c r (e 10) y m ∧ ∃ x, m 11 = .var V11 [y, .cap0, x, .cap0, .cap0] ∧ Acc 70 37 3 i (fun j a => ∃ s, a = (⟨s, 0, false⟩ : RegV).av ∧ Wd (c + j) s) x m) ?_ ?_ ?_
    · simp -implicitDefEqProofs only [vqa, Nat.reduceEqDiff, Nat.reduceAdd, reduceIte, Nat.reduceLeDiff, Nat.reduceBEq, Nat.reduceLT, Nat.reduceSub, Int.reduceLT, Int.reduceLE, Int.reduceEq, Int.reduceToNat, Nat.reduceMul, eq_self, implies_true, forall_const, m42, m40]
      exact ⟨e0, e1, e2, e3, e9, e11, hN, _, m11, .none⟩
    · clear e0 e1 e2 e3 e9 m42 m40 e11 m11 hN hA e m
      rintro i e m hi hi' ⟨e0, e1, e2, e3, e9, m42, m40, e11, e56, e57, hN, x, m11, hA⟩
      have hN0 := hN
      rcases hN with ⟨hz, _⟩ | ⟨V, g, e10, hy, m48, hg⟩
      · omega
      obtain ⟨s0, gs, ws⟩ := hg (c + i) (by omega)
      have wi : IntKind.i64.wrap ((c : Int) + (i : Int)) = ((c + i : Nat) : Int) := by rw [wI (by omega) (by omega)]; omega
      unfold a3_0
      rcases hA with ⟨hz, rfl⟩ | ⟨V2, g2, rfl, m70, hg2⟩
      · simp -implicitDefEqProofs only [vqa, Nat.reduceEqDiff, Nat.reduceAdd, reduceIte, Nat.reduceLeDiff, Nat.reduceBEq, Nat.reduceLT, Nat.reduceSub, Int.reduceLT, Int.reduceLE, Int.reduceEq, Int.reduceToNat, Nat.reduceMul, eq_self, implies_true, forall_const, e0, e1, e2, e3, e9, m42, m40, e11, e56, e57, m11, e10, m48, hi', wi]
        refine vAny [0, 1, 2, 3, 4, 5, 6, 7, 8, 9, 10, 11, 12] 12 (twoL 11 1048) (by kernel_rfl) (by kernel_rfl) ?_
        simp -implicitDefEqProofs only [vqa, Nat.reduceEqDiff, Nat.reduceAdd, reduceIte, Nat.reduceLeDiff, Nat.reduceBEq, Nat.reduceLT, Nat.reduceSub, Int.reduceLT, Int.reduceLE, Int.reduceEq, Int.reduceToNat, Nat.reduceMul, eq_self, implies_true, forall_const, restr_two1, restr_two2, agree_two, e0, e1, e2, e3, e9, m42, m40, e11, e56, e57, m11, e10, m48, wi, gs]
        subst hz
        rw [e10] at hN0
        exact ⟨⟨by omega, by omega⟩, by omega, hi, wI (by omega) (by omega), hN0.keep ((set_ne (by decide) _ _).trans ((set_ne (by decide) _ _).trans (set_ne (by decide) _ _))), _, rfl, Acc.keep (Acc.first (mem := m) ⟨s0, rfl, ws⟩) rfl⟩
      · simp -implicitDefEqProofs only [vqa, Nat.reduceEqDiff, Nat.reduceAdd, reduceIte, Nat.reduceLeDiff, Nat.reduceBEq, Nat.reduceLT, Nat.reduceSub, Int.reduceLT, Int.reduceLE, Int.reduceEq, Int.reduceToNat, Nat.reduceMul, eq_self, implies_true, forall_const, e0, e1, e2, e3, e9, m42, m40, e11, e56, e57, m11, e10, m48, hi', wi, m70]
        refine vAny [0, 1, 2, 3, 4, 5, 6, 7, 8, 9, 10, 11, 12] 12 (twoL 11 1048) (by kernel_rfl) (by kernel_rfl) ?_
        simp -implicitDefEqProofs only [vqa, Nat.reduceEqDiff, Nat.reduceAdd, reduceIte, Nat.reduceLeDiff, Nat.reduceBEq, Nat.reduceLT, Nat.reduceSub, Int.reduceLT, Int.reduceLE, Int.reduceEq, Int.reduceToNat, Nat.reduceMul, eq_self, implies_true, forall_const, restr_two1, restr_two2, agree_two, e0, e1, e2, e3, e9, m42, m40, e11, e56, e57, m11, e10, m48, wi, gs, m70]
        rw [e10] at hN0
        exact ⟨⟨by omega, by omega⟩, by omega, ⟨by omega, by omega⟩, hi, wI (by omega) (by omega), hN0.keep ((set_ne (by decide) _ _).trans ((set_ne (by decide) _ _).trans (set_ne (by decide) _ _))), _, rfl, Acc.keep (Acc.push (mem := m) hg2 ⟨s0, rfl, ws⟩) rfl⟩
    · clear e0 e1 e2 e3 e9 m42 m40 e11 m11 hN hA e m
      rintro e m ⟨e0, e1, e2, e3, e9, m42, m40, e11, e56, e57, hN, x, m11, hA⟩
      unfold a3_0
      simp -implicitDefEqProofs only [vqa, Nat.reduceEqDiff, Nat.reduceAdd, reduceIte, Nat.reduceLeDiff, Nat.reduceBEq, Nat.reduceLT, Nat.reduceSub, Int.reduceLT, Int.reduceLE, Int.reduceEq, Int.reduceToNat, Nat.reduceMul, eq_self, implies_true, forall_const, e0, e1, e2, e3, e9, m42, m40, e11, e56, e57, m11]
      obtain ⟨cA, vA, mA, za, zb, ⟨fi, zc, zd⟩, ze⟩ := hN.frz
      obtain ⟨cB, vB, mB, ya, yb, ⟨fr, yc, yd⟩, ye⟩ := (hA.keep (m' := mA) (ze 70 (by decide))).frzN
      refine CallW.frzK 0 (show 0 < 2 by decide) za zb ?_
      refine CallW.frzK 1 (show 1 < 2 by decide) ya yb ?_
      simp only [List.set, zc, yc]
      have m42' : mB 42 = _ := (ye 42 (by decide)).trans ((ze 42 (by decide)).trans m42)
      have m40' : mB 40 = _ := (ye 40 (by decide)).trans ((ze 40 (by decide)).trans m40)
      refine (p8 2000 (mem := mB) (fun i hi => by obtain ⟨s, hs, _⟩ := zd i hi; rw [hs]; exact ⟨rfl, rfl⟩) (fun i hi => by obtain ⟨s, hs, _⟩ := yd i hi; rw [hs]; exact ⟨rfl, rfl⟩) (by omega) (by omega)).mono fun q m2 ⟨v, gi, gr, hq, hM, hK, hgi, hgr⟩ => ?_
      subst hq
      have n42 := (hK 42 (by decide)).trans m42'
      have n40 := (hK 40 (by decide)).trans m40'
      obtain ⟨_, _, _, _, _, hmk, _⟩ := id hM
      simp -implicitDefEqProofs only [vqa, Nat.reduceEqDiff, Nat.reduceAdd, reduceIte, Nat.reduceLeDiff, Nat.reduceBEq, Nat.reduceLT, Nat.reduceSub, Int.reduceLT, Int.reduceLE, Int.reduceEq, Int.reduceToNat, Nat.reduceMul, eq_self, implies_true, forall_const, e0, e1, e2, e3, e9, n42, n40, hmk]
      refine CallW.sc p9 rfl trivial fun q hq => ⟨by subst hq; rfl, ?_⟩
      subst hq
      simp -implicitDefEqProofs only [vqa, Nat.reduceEqDiff, Nat.reduceAdd, reduceIte, Nat.reduceLeDiff, Nat.reduceBEq, Nat.reduceLT, Nat.reduceSub, Int.reduceLT, Int.reduceLE, Int.reduceEq, Int.reduceToNat, Nat.reduceMul, eq_self, implies_true, forall_const, e0, e1, e2, e3, e9, n42, n40, hmk, Bool.not_true, Bool.not_false, wcr]
      refine CallW.fz (p10 k (c + r) (by omega)) rfl rfl fun q ⟨fv, hq, hfv⟩ => ⟨by subst hq; rfl, ?_⟩
      subst hq
      obtain ⟨xv, hxv⟩ : ∃ x : Nat → Bool, ∀ i, i < c + r → fv i = .bool (x i) := ⟨fun i => if h : i < c + r then (hfv i h).choose else false, fun i hi => by show fv i = .bool (if h : i < c + r then (hfv i h).choose else false); rw [dif_pos hi]; exact (hfv i hi).choose_spec⟩
      simp -implicitDefEqProofs only [vqa, Nat.reduceEqDiff, Nat.reduceAdd, reduceIte, Nat.reduceLeDiff, Nat.reduceBEq, Nat.reduceLT, Nat.reduceSub, Int.reduceLT, Int.reduceLE, Int.reduceEq, Int.reduceToNat, Nat.reduceMul, eq_self, implies_true, forall_const, e0, e1, e2, e3, e9, n42, n40, hmk]
      have okN : (newM c r).Ok := ⟨by show c ≤ 1048576; omega, by show r ≤ 1048576; omega, Nat.zero_le _⟩
      have hx0 : ∀ i, i < c → (newM c r).lv xv (fun i => xv (c + i)) (2 * ((1 + i : Nat) : Int)) = xv i := fun i hi => by
        rw [lv_node, nv_base _ _ (by show 1 + i < 1 + c + r; omega)]
        unfold bBaseG
        rw [if_neg (by omega), if_pos (by show 1 + i < 1 + c; omega)]
        congr 1; omega
      have hy0 : ∀ i, i < r → (newM c r).lv xv (fun i => xv (c + i)) (2 * ((1 + c + i : Nat) : Int)) = xv (c + i) := fun i hi => by
        rw [lv_node, nv_base _ _ (by show 1 + c + i < 1 + c + r; omega)]
        unfold bBaseG
        rw [if_neg (by omega), if_neg (by show ¬ 1 + c + i < 1 + c; omega)]
        show xv (c + (1 + c + i - 1 - c)) = _
        congr 1; omega
      have hb0 : ∀ k, k < 1 + c + r → (newM c r).bef (2 * (k : Int)) := fun k hk => ⟨by omega, by show 2 * (k : Int) < 2 * ((1 + c + r + 0 : Nat) : Int); omega⟩
      have lt2 : ∀ {S : Nat → Prop}, (∀ i, S i → i < 1000 → False) → True := fun _ => trivial
      clear hN hA m42 m40 m42' m40' za zb ya yb ze ye hK e56 e57 m11 e11
      refine vFor c (fun i e m => e 0 = .int .i64 c ∧ e 1 = .int .i64 r ∧ e 3 = .fs n f ∧ e 9 = .ptr 42 V42 0 ∧ m 42 = .var V42 [.sl 40 V40 2, .int .i64 a1] ∧ m 40 = (.row V40 3 1 2 fun i => [AV.int .i64 ins, AV.int .i64 regs].getD i .undef) ∧ e 13 = .ptr 2011 v 0 ∧ e 14 = .fs (c + r) fv ∧ e 91 = .int .i64 c ∧ e 92 = .int .i64 i ∧ ∃ V1 V2 g h, e 15 = .sl 89 V1 (i + 1) ∧ e 16 = .sl 90 V2 (i + 1) ∧ m 89 = .row V1 35 1 (i + 1) g ∧ m 90 = .row V2 4 1 (i + 1) h ∧ LV (newM c r) xv (fun i => xv (c + i)) g h (i + 1) ∧ MkA m 2011 v gi gr (newM c r) (fun k => 2000 ≤ k ∧ k < 2100)) ?_ ?_ ?_
      · simp -implicitDefEqProofs only [vqa, Nat.reduceEqDiff, Nat.reduceAdd, reduceIte, Nat.reduceLeDiff, Nat.reduceBEq, Nat.reduceLT, Nat.reduceSub, Int.reduceLT, Int.reduceLE, Int.reduceEq, Int.reduceToNat, Nat.reduceMul, eq_self, implies_true, forall_const, e0, e1, e2, e3, e9, n42, n40]
        refine ⟨_, _, _, _, rfl, rfl, rfl, rfl, fun j hj => ?_, (hM.wide fun i hi => hi.elim False.elim id).congr (fun i hi => by rw [set_ne (by omega), set_ne (by omega)]) (fun _ h => h)⟩
        obtain rfl : j = 0 := by omega
        exact ⟨1, bef1 _, rfl, by rw [lv_one]; rfl⟩
      · clear e0 e1 e2 e3 e9 hmk n42 n40 hM e m
        rintro i e m hi hi' ⟨e0, e1, e3, e9, m42, m40, e13, e14, e91, e92, V1, V2, g, h, e15, e16, m89, m90, hL, hM⟩
        unfold a3_1
        simp -implicitDefEqProofs only [vqa, Nat.reduceEqDiff, Nat.reduceAdd, reduceIte, Nat.reduceLeDiff, Nat.reduceBEq, Nat.reduceLT, Nat.reduceSub, Int.reduceLT, Int.reduceLE, Int.reduceEq, Int.reduceToNat, Nat.reduceMul, eq_self, implies_true, forall_const, e0, e1, e3, e9, m42, m40, e13, e14, e91, e92, e15, e16, m89, m90, hi']
        refine vAnyT [0, 1, 2, 6, 7, 8, 9, 10] (twoApps 3 4 5 11 12 13 14) (fun _ => True) (by kernel_rfl) (by kernel_rfl) trivial ?_
        simp -implicitDefEqProofs only [vqa, Nat.reduceEqDiff, Nat.reduceAdd, reduceIte, Nat.reduceLeDiff, Nat.reduceBEq, Nat.reduceLT, Nat.reduceSub, Int.reduceLT, Int.reduceLE, Int.reduceEq, Int.reduceToNat, Nat.reduceMul, eq_self, implies_true, forall_const, vqt, twoApps, e0, e1, e3, e9, m42, m40, e13, e14, e91, e92, e15, e16, m89, m90, hxv i (by omega)]
        have hin : (newM c r).inF (i : Int) = (2 * ((1 + i : Nat) : Int), newM c r) := by
          unfold Mak.inF
          rw [if_neg (by rintro (h | h)
                         · omega
                         · have h : (c : Int) ≤ i := h; omega)]
          rfl
        have hbi := hb0 (1 + i) (by omega)
        have hvi := hx0 i hi
        have hLn := hL.push hbi hvi
        refine ⟨⟨by omega, by omega⟩, fun m' => ⟨_, rfl, by omega, by omega⟩, fun m' => ⟨_, rfl, trivial⟩, ?_, ?_⟩
        · refine (p11 hM okN i).mono fun q m3 ⟨hq, hM3, hF3⟩ => ?_
          rw [hin] at hq hM3
          subst hq
          have n42 := (hF3 42 (by decide)).trans m42
          have n40 := (hF3 40 (by decide)).trans m40
          have n89 := (hF3 89 (by decide)).trans m89
          have n90 := (hF3 90 (by decide)).trans m90
          simp -implicitDefEqProofs only [vqa, Nat.reduceEqDiff, Nat.reduceAdd, reduceIte, Nat.reduceLeDiff, Nat.reduceBEq, Nat.reduceLT, Nat.reduceSub, Int.reduceLT, Int.reduceLE, Int.reduceEq, Int.reduceToNat, Nat.reduceMul, eq_self, implies_true, forall_const, vqt, e0, e1, e3, e9, n42, n40, e13, e14, e91, e92, e15, e16, n89, n90]
          refine ⟨⟨?_, ?_⟩, ?_⟩
          all_goals exact ⟨⟨by omega, by omega⟩, ⟨by omega, by omega⟩, hi, wI (by omega) (by omega), _, _, _, _, rfl, rfl, rfl, rfl, hLn, hM3.congr (fun k hk => by have := hk.1; repeat rw [set_ne (by omega)]) fun _ h => h⟩
        · refine (p11 (hM.congr (fun k hk => by have := hk.1; rw [set_ne (by omega)]) fun _ h => h) okN i).mono fun q m3 ⟨hq, hM3, hF3⟩ => ?_
          rw [hin] at hq hM3
          subst hq
          have n42 := (hF3 42 (by decide)).trans ((set_ne (by decide) _ _).trans m42)
          have n40 := (hF3 40 (by decide)).trans ((set_ne (by decide) _ _).trans m40)
          have n89 := (hF3 89 (by decide)).trans ((set_ne (by decide) _ _).trans m89)
          have n90 := (hF3 90 (by decide)).trans ((set_ne (by decide) _ _).trans m90)
          have n106 := (hF3 106 (by decide)).trans (set_same _ _ _)
          simp -implicitDefEqProofs only [vqa, Nat.reduceEqDiff, Nat.reduceAdd, reduceIte, Nat.reduceLeDiff, Nat.reduceBEq, Nat.reduceLT, Nat.reduceSub, Int.reduceLT, Int.reduceLE, Int.reduceEq, Int.reduceToNat, Nat.reduceMul, eq_self, implies_true, forall_const, vqt, e0, e1, e3, e9, n42, n40, e13, e14, e91, e92, e15, e16, n89, n90, n106]
          exact ⟨⟨by omega, by omega⟩, ⟨by omega, by omega⟩, hi, wI (by omega) (by omega), _, _, _, _, rfl, rfl, rfl, rfl, hLn, hM3.congr (fun k hk => by have := hk.1; repeat rw [set_ne (by omega)]) fun _ h => h⟩
      · clear e0 e1 e2 e3 e9 hmk n42 n40 hM e m
        rintro e m ⟨e0, e1, e3, e9, m42, m40, e13, e14, e91, e92, V1, V2, g, h, e15, e16, m89, m90, hL, hM⟩
        unfold a3_1
        simp -implicitDefEqProofs only [vqa, Nat.reduceEqDiff, Nat.reduceAdd, reduceIte, Nat.reduceLeDiff, Nat.reduceBEq, Nat.reduceLT, Nat.reduceSub, Int.reduceLT, Int.reduceLE, Int.reduceEq, Int.reduceToNat, Nat.reduceMul, eq_self, implies_true, forall_const, e0, e1, e3, e9, m42, m40, e13, e14, e91, e92, e15, e16, m89, m90]
        refine vFor r (fun i e m => e 0 = .int .i64 c ∧ e 1 = .int .i64 r ∧ e 3 = .fs n f ∧ e 9 = .ptr 42 V42 0 ∧ m 42 = .var V42 [.sl 40 V40 2, .int .i64 a1] ∧ m 40 = (.row V40 3 1 2 fun i => [AV.int .i64 ins, AV.int .i64 regs].getD i .undef) ∧ e 13 = .ptr 2011 v 0 ∧ e 14 = .fs (c + r) fv ∧ e 109 = .int .i64 r ∧ e 110 = .int .i64 i ∧ ∃ V1 V2 g h, e 15 = .sl 89 V1 (c + i + 1) ∧ e 16 = .sl 90 V2 (c + i + 1) ∧ m 89 = .row V1 35 1 (c + i + 1) g ∧ m 90 = .row V2 4 1 (c + i + 1) h ∧ LV (newM c r) xv (fun i => xv (c + i)) g h (c + i + 1) ∧ MkA m 2011 v gi gr (newM c r) (fun k => 2000 ≤ k ∧ k < 2100)) ?_ ?_ ?_
        · simp -implicitDefEqProofs only [vqa, Nat.reduceEqDiff, Nat.reduceAdd, reduceIte, Nat.reduceLeDiff, Nat.reduceBEq, Nat.reduceLT, Nat.reduceSub, Int.reduceLT, Int.reduceLE, Int.reduceEq, Int.reduceToNat, Nat.reduceMul, eq_self, implies_true, forall_const, e0, e1, e3, e9, m42, m40, e13, e14, e15, e16]
          exact ⟨_, _, _, _, rfl, rfl, m89, m90, hL, hM⟩
        · clear e0 e1 e3 e9 m42 m40 e13 e14 e91 e92 e15 e16 m89 m90 hL hM e m V1 V2 g h
          rintro i e m hi hi' ⟨e0, e1, e3, e9, m42, m40, e13, e14, e109, e110, V1, V2, g, h, e15, e16, m89, m90, hL, hM⟩
          have wi : IntKind.i64.wrap ((c : Int) + (i : Int)) = ((c + i : Nat) : Int) := by rw [wI (by omega) (by omega)]; omega
          unfold a3_2
          simp -implicitDefEqProofs only [vqa, Nat.reduceEqDiff, Nat.reduceAdd, reduceIte, Nat.reduceLeDiff, Nat.reduceBEq, Nat.reduceLT, Nat.reduceSub, Int.reduceLT, Int.reduceLE, Int.reduceEq, Int.reduceToNat, Nat.reduceMul, eq_self, implies_true, forall_const, e0, e1, e3, e9, m42, m40, e13, e14, e109, e110, e15, e16, m89, m90, hi']
          refine vAnyT [0, 1, 2, 6, 7, 8, 9, 10, 11, 12] (twoApps 3 4 5 13 14 15 16) (fun _ => True) (by kernel_rfl) (by kernel_rfl) trivial ?_
          simp -implicitDefEqProofs only [vqa, Nat.reduceEqDiff, Nat.reduceAdd, reduceIte, Nat.reduceLeDiff, Nat.reduceBEq, Nat.reduceLT, Nat.reduceSub, Int.reduceLT, Int.reduceLE, Int.reduceEq, Int.reduceToNat, Nat.reduceMul, eq_self, implies_true, forall_const, vqt, twoApps, e0, e1, e3, e9, m42, m40, e13, e14, e109, e110, e15, e16, m89, m90, wi, hxv (c + i) (by omega)]
          have hin : (newM c r).regF (i : Int) = (2 * ((1 + c + i : Nat) : Int), newM c r) := by
            unfold Mak.regF
            rw [if_neg (by rintro (h | h)
                           · omega
                           · have h : (r : Int) ≤ i := h; omega)]
            rfl
          have hbi := hb0 (1 + c + i) (by omega)
          have hvi := hy0 i hi
          have hLn := hL.push hbi hvi
          refine ⟨⟨by omega, by omega⟩, fun m' => ⟨_, rfl, by omega, by omega⟩, fun m' => ⟨_, rfl, trivial⟩, ?_, ?_⟩
          · refine (p12 hM okN i).mono fun q m3 ⟨hq, hM3, hF3⟩ => ?_
            rw [hin] at hq hM3
            subst hq
            have n42 := (hF3 42 (by decide)).trans m42
            have n40 := (hF3 40 (by decide)).trans m40
            have n89 := (hF3 89 (by decide)).trans m89
            have n90 := (hF3 90 (by decide)).trans m90
            simp -implicitDefEqProofs only [vqa, Nat.reduceEqDiff, Nat.reduceAdd, reduceIte, Nat.reduceLeDiff, Nat.reduceBEq, Nat.reduceLT, Nat.reduceSub, Int.reduceLT, Int.reduceLE, Int.reduceEq, Int.reduceToNat, Nat.reduceMul, eq_self, implies_true, forall_const, vqt, e0, e1, e3, e9, n42, n40, e13, e14, e109, e110, e15, e16, n89, n90]
            refine ⟨⟨?_, ?_⟩, ?_⟩
            all_goals exact ⟨⟨by omega, by omega⟩, ⟨by omega, by omega⟩, hi, wI (by omega) (by omega), _, _, _, _, rfl, rfl, rfl, rfl, hLn, hM3.congr (fun k hk => by have := hk.1; repeat rw [set_ne (by omega)]) fun _ h => h⟩
          · refine (p12 (hM.congr (fun k hk => by have := hk.1; rw [set_ne (by omega)]) fun _ h => h) okN i).mono fun q m3 ⟨hq, hM3, hF3⟩ => ?_
            rw [hin] at hq hM3
            subst hq
            have n42 := (hF3 42 (by decide)).trans ((set_ne (by decide) _ _).trans m42)
            have n40 := (hF3 40 (by decide)).trans ((set_ne (by decide) _ _).trans m40)
            have n89 := (hF3 89 (by decide)).trans ((set_ne (by decide) _ _).trans m89)
            have n90 := (hF3 90 (by decide)).trans ((set_ne (by decide) _ _).trans m90)
            have n126 := (hF3 126 (by decide)).trans (set_same _ _ _)
            simp -implicitDefEqProofs only [vqa, Nat.reduceEqDiff, Nat.reduceAdd, reduceIte, Nat.reduceLeDiff, Nat.reduceBEq, Nat.reduceLT, Nat.reduceSub, Int.reduceLT, Int.reduceLE, Int.reduceEq, Int.reduceToNat, Nat.reduceMul, eq_self, implies_true, forall_const, vqt, e0, e1, e3, e9, n42, n40, e13, e14, e109, e110, e15, e16, n89, n90, n126]
            exact ⟨⟨by omega, by omega⟩, ⟨by omega, by omega⟩, hi, wI (by omega) (by omega), _, _, _, _, rfl, rfl, rfl, rfl, hLn, hM3.congr (fun k hk => by have := hk.1; repeat rw [set_ne (by omega)]) fun _ h => h⟩
        · clear e0 e1 e3 e9 m42 m40 e13 e14 e91 e92 e15 e16 m89 m90 hL hM e m V1 V2 g h
          rintro e m ⟨e0, e1, e3, e9, m42, m40, e13, e14, e109, e110, V1, V2, g, h, e15, e16, m89, m90, hL, hM⟩
          have w60 : (if (60 : Int) < (n : Int) then (60 : Int) else (n : Int)) = ((min n 60 : Nat) : Int) := by split <;> omega
          unfold a3_2
          simp -implicitDefEqProofs only [vqa, Nat.reduceEqDiff, Nat.reduceAdd, reduceIte, Nat.reduceLeDiff, Nat.reduceBEq, Nat.reduceLT, Nat.reduceSub, Int.reduceLT, Int.reduceLE, Int.reduceEq, Int.reduceToNat, Nat.reduceMul, eq_self, implies_true, forall_const, e0, e1, e3, e9, m42, m40, e13, e14, e109, e110, e15, e16, m89, m90, w60]
          refine ⟨⟨by omega, by omega, fun h0 => by obtain ⟨w, a, b, c', t, hfi, _⟩ := hf 0 (by omega); rw [hfi]; rfl⟩, ?_⟩
          have w61 : (((min n 60 : Nat) : Int) - 0).toNat = min n 60 := by omega
          simp only [w61]
          obtain ⟨N, hN⟩ : ∃ N, min n 60 = N := ⟨_, rfl⟩
          have hN60 : N ≤ 60 := by omega
          have hNn : N ≤ n := by omega
          rw [hN]
          refine vFor N (fun i e m => e 0 = .int .i64 c ∧ e 1 = .int .i64 r ∧ e 9 = .ptr 42 V42 0 ∧ m 42 = .var V42 [.sl 40 V40 2, .int .i64 a1] ∧ m 40 = (.row V40 3 1 2 fun i => [AV.int .i64 ins, AV.int .i64 regs].getD i .undef) ∧ e 13 = .ptr 2011 v 0 ∧ e 14 = .fs (c + r) fv ∧ e 133 = .fs N f ∧ e 134 = .int .i64 N ∧ e 135 = .int .i64 i ∧ ∃ M V1 V2 g h, e 15 = .sl 89 V1 (c + r + 1 + i) ∧ e 16 = .sl 90 V2 (c + r + 1 + i) ∧ m 89 = .row V1 35 1 (c + r + 1 + i) g ∧ m 90 = .row V2 4 1 (c + r + 1 + i) h ∧ LV M xv (fun i => xv (c + i)) g h (c + r + 1 + i) ∧ MkA m 2011 v gi gr M (fun k => 2000 ≤ k ∧ k < 100000 + 40000 * i) ∧ M.Ok ∧ M.Good ∧ M.Nd ∧ M.ni = c ∧ M.nr = r ∧ M.bad = 0 ∧ M.n ≤ 21 * i) ?_ ?_ ?_
          · simp -implicitDefEqProofs only [vqa, Nat.reduceEqDiff, Nat.reduceAdd, reduceIte, Nat.reduceLeDiff, Nat.reduceBEq, Nat.reduceLT, Nat.reduceSub, Int.reduceLT, Int.reduceLE, Int.reduceEq, Int.reduceToNat, Nat.reduceMul, eq_self, implies_true, forall_const, e0, e1, e9, m42, m40, e13, e14, e15, e16]
            refine ⟨newM c r, _, _, _, _, rfl, rfl, m89, m90, hL, hM.wide fun k hk => ⟨hk.1, by omega⟩, okN, fun k hk => absurd hk (Nat.not_lt_zero _), fun k hk => absurd hk (Nat.not_lt_zero _), rfl, rfl, rfl, Nat.le_refl _⟩
          · clear e0 e1 e3 e9 m42 m40 e13 e14 e109 e110 e15 e16 m89 m90 hL hM e m V1 V2 g h
            rintro i e m hi hi' ⟨e0, e1, e9, m42, m40, e13, e14, e133, e134, e135, M, V1, V2, g, h, e15, e16, m89, m90, hL, hM, ok, hg, hnd, hni, hnr, hbad, hn'⟩
            obtain ⟨w, qa, qb, qc, t, hfi, ht⟩ := hf i (by omega)
            generalize hlen : c + r + 1 + i = len at *
            have hlen1 : 1 ≤ len := by omega
            have hlen2 : len ≤ 1000 := by omega
            unfold a3_3
            simp -implicitDefEqProofs only [vqa, Nat.reduceEqDiff, Nat.reduceAdd, reduceIte, Nat.reduceLeDiff, Nat.reduceBEq, Nat.reduceLT, Nat.reduceSub, Int.reduceLT, Int.reduceLE, Int.reduceEq, Int.reduceToNat, Nat.reduceMul, eq_self, implies_true, forall_const, e0, e1, e9, m42, m40, e13, e14, e133, e134, e135, e15, e16, m89, m90, hi', hfi]
            refine ⟨by omega, ?_⟩
            refine vAny [0, 1, 2, 3, 5, 6, 7, 8, 10, 11, 12, 13, 4, 9, 14, 15, 16, 17] 18 allL (by kernel_rfl) (by kernel_rfl) ?_
            simp -implicitDefEqProofs only [vqa, Nat.reduceEqDiff, Nat.reduceAdd, reduceIte, Nat.reduceLeDiff, Nat.reduceBEq, Nat.reduceLT, Nat.reduceSub, Int.reduceLT, Int.reduceLE, Int.reduceEq, Int.reduceToNat, Nat.reduceMul, eq_self, implies_true, forall_const, e0, e1, e9, m42, m40, e13, e14, e133, e134, e135, e15, e16, m89, m90]
            refine CallW.sc (p6g qa len (by omega) (by omega)) rfl ⟨trivial, trivial, trivial⟩ fun q ⟨j, hq, q5, q6⟩ => ⟨by subst hq; rfl, ?_⟩
            subst hq
            obtain ⟨ja, rfl⟩ : ∃ c : Nat, j = (c : Int) := ⟨j.toNat, by omega⟩
            simp -implicitDefEqProofs only [vqa, Nat.reduceEqDiff, Nat.reduceAdd, reduceIte, Nat.reduceLeDiff, Nat.reduceBEq, Nat.reduceLT, Nat.reduceSub, Int.reduceLT, Int.reduceLE, Int.reduceEq, Int.reduceToNat, Nat.reduceMul, eq_self, implies_true, forall_const, e0, e1, e9, m42, m40, e13, e14, e133, e134, e135, e15, e16, m89, m90]
            refine CallW.sc (p6g qb len (by omega) (by omega)) rfl ⟨trivial, trivial, trivial⟩ fun q ⟨j, hq, q7, q8⟩ => ⟨by subst hq; rfl, ?_⟩
            subst hq
            obtain ⟨jb, rfl⟩ : ∃ c : Nat, j = (c : Int) := ⟨j.toNat, by omega⟩
            simp -implicitDefEqProofs only [vqa, Nat.reduceEqDiff, Nat.reduceAdd, reduceIte, Nat.reduceLeDiff, Nat.reduceBEq, Nat.reduceLT, Nat.reduceSub, Int.reduceLT, Int.reduceLE, Int.reduceEq, Int.reduceToNat, Nat.reduceMul, eq_self, implies_true, forall_const, e0, e1, e9, m42, m40, e13, e14, e133, e134, e135, e15, e16, m89, m90]
            refine CallW.sc (p6g qc len (by omega) (by omega)) rfl ⟨trivial, trivial, trivial⟩ fun q ⟨j, hq, q9, q10⟩ => ⟨by subst hq; rfl, ?_⟩
            subst hq
            obtain ⟨jc, rfl⟩ : ∃ c : Nat, j = (c : Int) := ⟨j.toNat, by omega⟩
            simp -implicitDefEqProofs only [vqa, Nat.reduceEqDiff, Nat.reduceAdd, reduceIte, Nat.reduceLeDiff, Nat.reduceBEq, Nat.reduceLT, Nat.reduceSub, Int.reduceLT, Int.reduceLE, Int.reduceEq, Int.reduceToNat, Nat.reduceMul, eq_self, implies_true, forall_const, e0, e1, e9, m42, m40, e13, e14, e133, e134, e135, e15, e16, m89, m90]
            obtain ⟨la, ba, ga, va⟩ := hL ja (by omega)
            obtain ⟨lb, bb, gb', vb⟩ := hL jb (by omega)
            obtain ⟨lc, bc, gc, vc⟩ := hL jc (by omega)
            refine (p13 (hM.congr (fun k hk => by have := hk.1; repeat rw [set_ne (by omega)]) fun _ h => h) ok).mono fun q m' ⟨hq, hm'⟩ => ?_
            subst hq
            subst hm'
            simp -implicitDefEqProofs only [vqa, Nat.reduceEqDiff, Nat.reduceAdd, reduceIte, Nat.reduceLeDiff, Nat.reduceBEq, Nat.reduceLT, Nat.reduceSub, Int.reduceLT, Int.reduceLE, Int.reduceEq, Int.reduceToNat, Nat.reduceMul, eq_self, implies_true, forall_const, e0, e1, e9, m42, m40, e13, e14, e133, e134, e135, e15, e16, m89, m90]
            refine vAny [0, 1, 2, 3, 4, 5, 6, 7, 8, 9, 10, 11, 12, 13, 14, 15, 16, 17, 18, 19, 20, 21, 22, 23, 24, 25, 26, 27, 28, 29, 30, 31, 32, 33] 34 (threeL 20 89 90) (by kernel_rfl) (by kernel_rfl) ?_
            simp -implicitDefEqProofs only [vqa, Nat.reduceEqDiff, Nat.reduceAdd, reduceIte, Nat.reduceLeDiff, Nat.reduceBEq, Nat.reduceLT, Nat.reduceSub, Int.reduceLT, Int.reduceLE, Int.reduceEq, Int.reduceToNat, Nat.reduceMul, eq_self, implies_true, forall_const, restr_three1, restr_three2, restr_three3, agree_three, e0, e1, e9, m42, m40, e13, e14, e133, e134, e135, e15, e16, m89, m90, ga, gb', gc, va, vb, vc]
            have za : ja < len := by omega
            have zb : jb < len := by omega
            have zc' : jc < len := by omega
            refine ⟨⟨by omega, by omega⟩, za, ⟨by omega, by omega⟩, zb, ⟨by omega, by omega⟩, zc', ⟨by omega, by omega⟩, za, ⟨by omega, by omega⟩, zb, ⟨by omega, by omega⟩, zc', ?_⟩
            refine (p14 (100000 + 40000 * i) (hM.congr (fun k hk => by have := hk.1; repeat rw [set_ne (by omega)]) fun _ h => h) ok hg (fun k hk => hk.2) (by omega) xv (fun i => xv (c + i)) w qa qb qc t la lb lc ht ba bb bc).mono fun q m3 ⟨M', l, cv, hq, hG, hM3, hF3⟩ => ?_
            subst hq
            have lo : ∀ k, k < 2000 → m3 k = Mem.set 20 _ (Mem.set 20 _ m) k := fun k hk => hF3 k (by omega) (fun h => by have := h.1; omega)
            have n42 := (lo 42 (by decide)).trans ((set_ne (by decide) _ _).trans ((set_ne (by decide) _ _).trans m42))
            have n40 := (lo 40 (by decide)).trans ((set_ne (by decide) _ _).trans ((set_ne (by decide) _ _).trans m40))
            have n89 := (lo 89 (by decide)).trans ((set_ne (by decide) _ _).trans ((set_ne (by decide) _ _).trans m89))
            have n90 := (lo 90 (by decide)).trans ((set_ne (by decide) _ _).trans ((set_ne (by decide) _ _).trans m90))
            have n20 := (lo 20 (by decide)).trans (set_same _ _ _)
            clear lo
            simp -implicitDefEqProofs only [vqa, Nat.reduceEqDiff, Nat.reduceAdd, reduceIte, Nat.reduceLeDiff, Nat.reduceBEq, Nat.reduceLT, Nat.reduceSub, Int.reduceLT, Int.reduceLE, Int.reduceEq, Int.reduceToNat, Nat.reduceMul, eq_self, implies_true, forall_const, restr_three1, restr_three2, restr_three3, agree_three, e0, e1, e9, n42, n40, e13, e14, e133, e134, e135, e15, e16, n89, n90, n20, m89, m90]
            have hS := hG.ms
            have hhi := hS.hi
            have hlo := hS.pre.lo
            have w1 : ∀ k, Ext (fun k => 2000 ≤ k ∧ k < 100000 + 40000 * i) (100000 + 40000 * i) (100000 + 40000 * i + 30000) k → 2000 ≤ k ∧ k < 100000 + 40000 * (i + 1) := fun k hk => hk.elim (fun h => ⟨h.1, by have := h.2; omega⟩) (fun h => ⟨by omega, by omega⟩)
            have wd : IntKind.i64.wrap ((M'.nodes : Nat) - (M.nodes : Nat) : Int) = ((M'.n - M.n : Nat) : Int) := by
              have e1 : M'.nodes = 1 + M'.ni + M'.nr + M'.n := rfl
              have e2 : M.nodes = 1 + M.ni + M.nr + M.n := rfl
              have e3 := hS.pre.ni; have e4 := hS.pre.nr
              rw [wI (by omega) (by omega)]; omega
            have d1 : ¬ ((M'.n - M.n : Nat) : Int) < 0 := by omega
            have d2 : ¬ (21 : Int) < ((M'.n - M.n : Nat) : Int) := by omega
            refine (p13 hM3 hS.ok).mono fun q m4 ⟨hq, hm4⟩ => ?_
            subst hq
            subst hm4
            simp -implicitDefEqProofs only [vqa, Nat.reduceEqDiff, Nat.reduceAdd, reduceIte, Nat.reduceLeDiff, Nat.reduceBEq, Nat.reduceLT, Nat.reduceSub, Int.reduceLT, Int.reduceLE, Int.reduceEq, Int.reduceToNat, Nat.reduceMul, eq_self, implies_true, forall_const, e0, e1, e9, n42, n40, e13, e14, e133, e134, e135, e15, e16, n89, n90, n20, wd, d1, d2]
            have hLn := (hL.pre hS.pre).push hG.bef hG.val
            have hl1 : c + r + 1 + (i + 1) = len + 1 := by omega
            rw [hl1]
            exact ⟨⟨by omega, by omega⟩, ⟨by omega, by omega⟩, hi, wI (by omega) (by omega), M', _, _, _, _, rfl, rfl, rfl, rfl, hLn, (hM3.wide w1).congr (fun k hk => by have := hk.1; repeat rw [set_ne (by omega)]) fun _ h => h, hS.ok, hS.good, hS.nd hnd, hS.pre.ni.trans hni, hS.pre.nr.trans hnr, (hS.fine rfl).trans hbad, by omega⟩
          · clear e0 e1 e3 e9 m42 m40 e13 e14 e109 e110 e15 e16 m89 m90 hL hM e m V1 V2 g h
            rintro e m ⟨e0, e1, e9, m42, m40, e13, e14, e133, e134, e135, M, V1, V2, g, h, e15, e16, m89, m90, hL, hM, ok, hg, hnd, hni, hnr, hbad, hn'⟩
            generalize hT : c + r + 1 + N = T at *
            have hT1 : r + 1 ≤ T := by omega
            have hT2 : T ≤ 100 := by omega
            unfold a3_3
            simp -implicitDefEqProofs only [vqa, Nat.reduceEqDiff, Nat.reduceAdd, reduceIte, Nat.reduceLeDiff, Nat.reduceBEq, Nat.reduceLT, Nat.reduceSub, Int.reduceLT, Int.reduceLE, Int.reduceEq, Int.reduceToNat, Nat.reduceMul, eq_self, implies_true, forall_const, e0, e1, e9, m42, m40, e13, e14, e133, e134, e135, e15, e16, m89, m90]
            obtain ⟨mF, hsF, hF, hFr⟩ := (hM.congr (mem' := Mem.set 90 (.dead (V2 + 1)) (Mem.set 89 (.dead (V1 + 1)) m)) (fun k hk => by have := hk.1; rw [set_ne (by omega), set_ne (by omega)]) fun _ h => h).shiftF
            have lo : ∀ k, k < 2000 → mF k = Mem.set 90 (.dead (V2 + 1)) (Mem.set 89 (.dead (V1 + 1)) m) k := fun k hk => hFr k (fun h => by have := h.1; omega)
            have hLg : ∀ j, j < T → ∃ l, M.bef l ∧ g j = .int .i64 l ∧ h j = .bool (M.lv xv (fun i => xv (c + i)) l) := hL
            refine vForS r (fun i e m => e 0 = .int .i64 c ∧ e 1 = .int .i64 r ∧ e 9 = .ptr 42 V42 0 ∧ m 42 = .var V42 [.sl 40 V40 2, .int .i64 a1] ∧ m 40 = (.row V40 3 1 2 fun i => [AV.int .i64 ins, AV.int .i64 regs].getD i .undef) ∧ e 13 = .ptr 2011 v 0 ∧ e 14 = .fs (c + r) fv ∧ e 15 = .fs T g ∧ e 16 = .fs T h ∧ e 207 = .int .i64 r ∧ e 208 = .int .i64 i ∧ Acc 221 35 1 i (fun j a => a = g (T - 1 - j)) (e 28) m ∧ MkF m 2011 v gi gr M) ?_ ?_ ?_
            · refine ⟨_, mF, (Shift.frz1 (d := 15) (k := T) (f := g) (n := T) m89 ?_).trans ((Shift.frz1 (d := 16) (k := T) (f := h) (n := T) ((set_ne (by decide) _ _).trans m90) ?_).trans (hsF _)), ?_⟩
              · simp -implicitDefEqProofs only [vqa, Nat.reduceEqDiff, Nat.reduceAdd, reduceIte, Nat.reduceLeDiff, Nat.reduceBEq, Nat.reduceLT, Nat.reduceSub, Int.reduceLT, Int.reduceLE, Int.reduceEq, Int.reduceToNat, Nat.reduceMul, eq_self, implies_true, forall_const, e15]
              · simp -implicitDefEqProofs only [vqa, Nat.reduceEqDiff, Nat.reduceAdd, reduceIte, Nat.reduceLeDiff, Nat.reduceBEq, Nat.reduceLT, Nat.reduceSub, Int.reduceLT, Int.reduceLE, Int.reduceEq, Int.reduceToNat, Nat.reduceMul, eq_self, implies_true, forall_const, e16]
              · have n42 := (lo 42 (by decide)).trans ((set_ne (by decide) _ _).trans ((set_ne (by decide) _ _).trans m42))
                have n40 := (lo 40 (by decide)).trans ((set_ne (by decide) _ _).trans ((set_ne (by decide) _ _).trans m40))
                simp -implicitDefEqProofs only [vqa, Nat.reduceEqDiff, Nat.reduceAdd, reduceIte, Nat.reduceLeDiff, Nat.reduceBEq, Nat.reduceLT, Nat.reduceSub, Int.reduceLT, Int.reduceLE, Int.reduceEq, Int.reduceToNat, Nat.reduceMul, eq_self, implies_true, forall_const, e0, e1, e9, e13, e14, n42, n40]
                exact ⟨.none, hF⟩
            · clear e0 e1 e9 m42 m40 e13 e14 e133 e134 e135 e15 e16 m89 m90 hM hF hsF hFr lo e m
              rintro i e m hi hi' ⟨e0, e1, e9, m42, m40, e13, e14, e15, e16, e207, e208, hA, hF⟩
              obtain ⟨l, hbl, hgl, _⟩ := hLg (T - 1 - i) (by omega)
              have wT : IntKind.i64.wrap (IntKind.i64.wrap ((T : Int) - 1) - (i : Int)) = ((T - 1 - i : Nat) : Int) := by rw [wI (n := (T : Int) - 1) (by omega) (by omega), wI (by omega) (by omega)]; omega
              unfold a3_4
              rcases hA with ⟨hz, e28⟩ | ⟨V, g2, e28, m221, hg2⟩
              · simp -implicitDefEqProofs only [vqa, Nat.reduceEqDiff, Nat.reduceAdd, reduceIte, Nat.reduceLeDiff, Nat.reduceBEq, Nat.reduceLT, Nat.reduceSub, Int.reduceLT, Int.reduceLE, Int.reduceEq, Int.reduceToNat, Nat.reduceMul, eq_self, implies_true, forall_const, forSN, forSR, forSE, e0, e1, e9, m42, m40, e13, e14, e15, e16, e207, e208, e28, hi', wT, hgl]
                refine ⟨⟨by omega, by omega⟩, hi, _, _, Shift.refl _ _, ?_⟩
                simp -implicitDefEqProofs only [vqa, Nat.reduceEqDiff, Nat.reduceAdd, reduceIte, Nat.reduceLeDiff, Nat.reduceBEq, Nat.reduceLT, Nat.reduceSub, Int.reduceLT, Int.reduceLE, Int.reduceEq, Int.reduceToNat, Nat.reduceMul, eq_self, implies_true, forall_const, e0, e1, e9, m42, m40, e13, e14, e15, e16, e207]
                subst hz
                exact ⟨wI (by omega) (by omega), .first hgl.symm, hF.keep ((set_ne (by decide) _ _).trans (set_ne (by decide) _ _))⟩
              · simp -implicitDefEqProofs only [vqa, Nat.reduceEqDiff, Nat.reduceAdd, reduceIte, Nat.reduceLeDiff, Nat.reduceBEq, Nat.reduceLT, Nat.reduceSub, Int.reduceLT, Int.reduceLE, Int.reduceEq, Int.reduceToNat, Nat.reduceMul, eq_self, implies_true, forall_const, forSN, forSR, forSE, e0, e1, e9, m42, m40, e13, e14, e15, e16, e207, e208, e28, hi', wT, hgl, m221]
                refine ⟨⟨by omega, by omega⟩, ⟨by omega, by omega⟩, hi, _, _, Shift.refl _ _, ?_⟩
                simp -implicitDefEqProofs only [vqa, Nat.reduceEqDiff, Nat.reduceAdd, reduceIte, Nat.reduceLeDiff, Nat.reduceBEq, Nat.reduceLT, Nat.reduceSub, Int.reduceLT, Int.reduceLE, Int.reduceEq, Int.reduceToNat, Nat.reduceMul, eq_self, implies_true, forall_const, e0, e1, e9, m42, m40, e13, e14, e15, e16, e207]
                exact ⟨wI (by omega) (by omega), .push hg2 hgl.symm, hF.keep ((set_ne (by decide) _ _).trans (set_ne (by decide) _ _))⟩
            · clear e0 e1 e9 m42 m40 e13 e14 e133 e134 e135 e15 e16 m89 m90 hM hF hsF hFr lo e m
              rintro e m ⟨e0, e1, e9, m42, m40, e13, e14, e15, e16, e207, e208, hA, hF⟩
              have wT : (if (100 : Int) < (T : Int) then (100 : Int) else (T : Int)) = (T : Int) := if_neg (by omega)
              have wT2 : IntKind.i64.wrap ((T : Int) - (T : Int)) = 0 := by rw [Int.sub_self]; rfl
              unfold a3_4
              obtain ⟨t1, t2, t3⟩ : (e 28).okv = true ∧ (e 28).cells = [e 28] ∧ (e 28).isCell = true := by rcases hA with ⟨_, h⟩ | ⟨_, _, h, _⟩ <;> rw [h] <;> exact ⟨rfl, rfl, rfl⟩
              generalize e28 : e 28 = nv at hA t1 t2 t3
              simp -implicitDefEqProofs only [vqa, Nat.reduceEqDiff, Nat.reduceAdd, reduceIte, Nat.reduceLeDiff, Nat.reduceBEq, Nat.reduceLT, Nat.reduceSub, Int.reduceLT, Int.reduceLE, Int.reduceEq, Int.reduceToNat, Nat.reduceMul, eq_self, implies_true, forall_const, e0, e1, e9, m42, m40, e13, e14, e15, e16, e207, e208, e28, wT, wT2, t1, t2, t3]
              have w0 : ((T : Int) - 0).toNat = T := by omega
              simp only [w0]
              refine ⟨⟨by omega, by omega, fun h0 => by obtain ⟨l, _, hgl, _⟩ := hLg 0 (by omega); rw [hgl]; rfl⟩, ?_⟩
              refine (p7 5000000 (o := 42) (id := 40) (by decide) (by decide) m42 m40 (fun i hi => by rcases (show i = 0 ∨ i = 1 by omega) with rfl | rfl <;> exact ⟨_, rfl⟩) l1 (by omega) T (by omega)).mono fun q m5 ⟨⟨a2, m42', _, _⟩, hO, hK5⟩ => ?_
              obtain ⟨s1, s2, s3⟩ : q.okv = true ∧ q.cells = [q] ∧ q.isCell = true := by rcases hO with ⟨_, h⟩ | ⟨_, _, h, _⟩ <;> rw [h] <;> exact ⟨rfl, rfl, rfl⟩
              simp -implicitDefEqProofs only [vqa, Nat.reduceEqDiff, Nat.reduceAdd, reduceIte, Nat.reduceLeDiff, Nat.reduceBEq, Nat.reduceLT, Nat.reduceSub, Int.reduceLT, Int.reduceLE, Int.reduceEq, Int.reduceToNat, Nat.reduceMul, eq_self, implies_true, forall_const, e0, e1, e9, e13, e14, e15, e16, e28, t1, t2, t3, s1, s2, s3, w0]
              obtain ⟨cO, vO, mO, oa, ob, ⟨fo, oc, od⟩, oe⟩ := hO.frzN
              obtain ⟨cN, vN, mN, na, nb, ⟨fn, nc, nd⟩, ne⟩ := (hA.keep (m' := mO) ((oe 221 (by decide)).trans (hK5 221 (by decide) (by decide)))).frzN
              have hFN := hF.keep (mem' := mN) ((ne 2011 (by decide)).trans ((oe 2011 (by decide)).trans (hK5 2011 (by decide) (by decide))))
              refine CallW.frzK 1 (show 1 < 4 by decide) oa ob ?_
              refine CallW.frzK 3 (show 3 < 4 by decide) na nb ?_
              simp only [List.set, oc, nc]
              obtain ⟨L, hLs⟩ := skolN hLg
              obtain ⟨out, hout⟩ := skolN od
              obtain ⟨nin, hnin⟩ := skolN (n := c) (p := fun i s => gi i = .str s ∧ Wd i s) fun i hi => by
                obtain ⟨s, h1, h2⟩ := zd i hi
                exact ⟨s, by rw [hgi i hi, h1], h2⟩
              obtain ⟨rn, hrn⟩ := skolN (n := r) (p := fun i s => gr i = (⟨s, 0, false⟩ : RegV).av ∧ Wd (c + i) s) fun i hi => by
                obtain ⟨s, h1, h2⟩ := yd i hi
                exact ⟨s, by rw [hgr i hi, h1], h2⟩
              have hnods : M.nodes ≤ 4016 := by
                have e1 : M.nodes = 1 + M.ni + M.nr + M.n := rfl
                have := ok.n; omega
              have L64l : ∀ {l : Int}, M.bef l → L64 l := fun h => ⟨by have := h.1; omega, by have := h.2; omega⟩
              have sz : ∀ {i : Nat} {s : ByteArray}, Wd i s → s.size ≤ 1048576 := fun h => by have := h.ok.2.1; omega
              have hbl : ∀ {l : Int} {k : Nat}, k ≤ 4000 → litOk (M.base + k) l → L64 l := fun hk h => ⟨by have := h.1; omega, by
                have := h.2
                have e1 : M.base = 1 + M.ni + M.nr := rfl
                omega⟩
              have gok : (M.gra nin (fun i => ⟨rn i, 0, false⟩) T out T L (fun i => 0)).Ok := ⟨by show M.ni ≤ _; omega, by show T ≤ _; omega, by show M.nr ≤ _; omega, by show M.n ≤ _; have := ok.n; omega, by show T ≤ _; omega, fun i hi => sz (hnin i (hni ▸ hi)).2, fun i hi => sz (hout i hi).2, fun i hi => ⟨sz (hrn i (hnr ▸ hi)).2, show L64 0 from ⟨by decide, by decide⟩⟩, fun i hi => hbl (by have := ok.n; have hi : i < M.n := hi; omega) (hg i hi).1, fun i hi => hbl (by have := ok.n; have hi : i < M.n := hi; omega) (hg i hi).2, fun i hi => L64l (hLs i hi).1⟩
              obtain ⟨G, hGd⟩ : ∃ G, M.gra nin (fun i => ⟨rn i, 0, false⟩) T out T L (fun i => L (T - 1 - i)) = G := ⟨_, rfl⟩
              have hGF : graphF G = 0 := by
                rw [← hGd]
                refine graphF_good ⟨by show M.ni ≤ 128; omega, by show T ≤ 128; omega, by show M.nr ≤ 288; omega, ok.n, rfl, fun i hi => (hg i hi).1, fun i hi => (hg i hi).2, fun i hi => (hLs (T - 1 - i) (by have hi : i < M.nr := hi; omega)).1, fun i hi => (hLs i hi).1⟩ ?_ (Wd.names (by show T ≤ 676; omega) fun i hi => (hout i hi).2)
                refine Wd.names (by show M.ni + M.nr ≤ 676; omega) fun i hi => ?_
                have hi : i < M.ni + M.nr := hi
                show Wd i (if i < M.ni then nin i else rn (i - M.ni))
                by_cases q : i < M.ni
                · rw [if_pos q]; exact (hnin i (by omega)).2
                · rw [if_neg q]
                  have := (hrn (i - M.ni) (by omega)).2
                  rw [show c + (i - M.ni) = i by omega] at this
                  exact this
              have hgF : M.graF r (M.gra nin (fun i => ⟨rn i, 0, false⟩) T out T L (fun i => L (T - 1 - i))) = 0 := by
                unfold Mak.graF
                rw [if_neg (by rw [hbad]; simp), if_neg (by omega), hGd]; exact hGF
              refine (p15f 6000000 hFN ok (by decide) (fun i hi => (hnin i (hni ▸ hi)).1) (fun i hi => (hrn i (hnr ▸ hi)).1) (fo := fo) (fk := fun i => g i) (fn := fn) (fun i hi => (hout i hi).1) (fun i hi => (hLs i hi).2.1) (nn := r) (fun i hi => by rw [nd i hi]; exact (hLs (T - 1 - i) (by omega)).2.1) gok (fun i hi => L64l (hLs (T - 1 - i) (by omega)).1) (by omega) hgF).mono fun q m6 ⟨ds, hq, hG, hK6⟩ => ?_
              subst hq
              rw [hGd] at hG
              have hG0 := hG
              obtain ⟨d0, d1, d2, d3, d4, rfl, b0, b1, b2, b3, b4⟩ := hG
              have hF6 := hFN.keep (mem' := m6) (hK6 2011 (by decide))
              simp -implicitDefEqProofs only [vqa, Nat.reduceEqDiff, Nat.reduceAdd, reduceIte, Nat.reduceLeDiff, Nat.reduceBEq, Nat.reduceLT, Nat.reduceSub, Int.reduceLT, Int.reduceLE, Int.reduceEq, Int.reduceToNat, Nat.reduceMul, eq_self, implies_true, forall_const, e0, e1, e9, e13, e14, e15, e16, e28, t1, t2, t3]
              have gokG : G.Ok := by
                rw [← hGd]
                exact ⟨gok.ni, gok.no, gok.nr, gok.na, gok.nk, gok.inn, gok.out, fun i hi => ⟨(gok.reg i hi).1, L64l (hLs (T - 1 - i) (by have hi : i < M.nr := hi; omega)).1⟩, gok.A, gok.B, gok.outs⟩
              have gd := good_of hGF
              have gna : G.na = M.n := by rw [← hGd]; rfl
              have gni : G.ni = c := by rw [← hGd]; exact hni
              have gnr : G.nr = r := by rw [← hGd]; exact hnr
              have gnk : G.nk = T := by rw [← hGd]; rfl
              have gout : ∀ i, G.outs i = L i := fun i => by rw [← hGd]; rfl
              have gnx : ∀ i, (G.reg i).next = L (T - 1 - i) := fun i => by rw [← hGd]; rfl
              have glit : ∀ x y l, litB G x y l = M.lv x y l := fun x y l => by rw [← hGd]; exact gra_lit _ _ _ _ _ _ _ _ x y l
              have gndG : NdG G := by rw [← hGd]; exact hnd
              have wN : IntKind.i64.wrap (IntKind.i64.wrap (IntKind.i64.wrap (1 + (c : Int)) + (r : Int)) + (G.na : Int)) = (M.nodes : Nat) := by
                have e1 : M.nodes = 1 + M.ni + M.nr + M.n := rfl
                have := ok.n
                rw [wI (n := 1 + (c : Int)) (by omega) (by omega), wI (n := 1 + (c : Int) + (r : Int)) (by omega) (by omega), wI (by omega) (by omega)]; omega
              refine vAny [0, 1, 2, 3, 4, 5, 6, 7, 8, 9, 10, 11, 12, 13, 14, 15, 16, 17, 18, 19] 20 allL (by kernel_rfl) (by kernel_rfl) ?_
              simp -implicitDefEqProofs only [vqa, Nat.reduceEqDiff, Nat.reduceAdd, reduceIte, Nat.reduceLeDiff, Nat.reduceBEq, Nat.reduceLT, Nat.reduceSub, Int.reduceLT, Int.reduceLE, Int.reduceEq, Int.reduceToNat, Nat.reduceMul, eq_self, implies_true, forall_const, e0, e1, e9, e13, e14, e15, e16]
              refine CallW.sc (p16 hG0 gokG) rfl ⟨⟨trivial, trivial, trivial, trivial, trivial, trivial⟩, trivial⟩ fun q hq => ⟨by subst hq; rfl, ?_⟩
              rw [hGF] at hq
              subst hq
              simp -implicitDefEqProofs only [vqa, Nat.reduceEqDiff, Nat.reduceAdd, reduceIte, Nat.reduceLeDiff, Nat.reduceBEq, Nat.reduceLT, Nat.reduceSub, Int.reduceLT, Int.reduceLE, Int.reduceEq, Int.reduceToNat, Nat.reduceMul, eq_self, implies_true, forall_const, e0, e1, e9, e13, e14, e15, e16]
              refine (p13F (hF6.keep (by simp only [set_at]; rfl)) ok).mono fun q m7 ⟨hq, hm7⟩ => ?_
              subst hq
              subst hm7
              simp -implicitDefEqProofs only [vqa, Nat.reduceEqDiff, Nat.reduceAdd, reduceIte, Nat.reduceLeDiff, Nat.reduceBEq, Nat.reduceLT, Nat.reduceSub, Int.reduceLT, Int.reduceLE, Int.reduceEq, Int.reduceToNat, Nat.reduceMul, eq_self, implies_true, forall_const, e0, e1, e9, e13, e14, e15, e16, wN]
              refine CallW.fz (p17 hG0 gokG gd) rfl rfl fun q ⟨hs, ff, hq, hGs, _⟩ => ⟨by obtain ⟨_, _, _, _, _, rfl, _⟩ := hGs; subst hq; rfl, ?_⟩
              obtain ⟨u0, u1, u2, u3, u4, rfl, _⟩ := hGs
              subst hq
              have hna : (strG G).na = G.na := (hs_id gd gndG G.na (Nat.le_refl _)).1
              rw [hna]
              simp -implicitDefEqProofs only [vqa, Nat.reduceEqDiff, Nat.reduceAdd, reduceIte, Nat.reduceLeDiff, Nat.reduceBEq, Nat.reduceLT, Nat.reduceSub, Int.reduceLT, Int.reduceLE, Int.reduceEq, Int.reduceToNat, Nat.reduceMul, eq_self, implies_true, forall_const, e0, e1, e9, e13, e14, e15, e16]
              have y1 : ((c : Int) - 0).toNat = c := by omega
              have y2 : (((c + r : Nat) : Int) - (c : Nat)).toNat = r := by omega
              refine vAny [0, 1, 2, 3, 4, 5, 6, 7, 8, 9, 10, 11, 12] 13 allL (by kernel_rfl) (by kernel_rfl) ?_
              simp -implicitDefEqProofs only [vqa, Nat.reduceEqDiff, Nat.reduceAdd, reduceIte, Nat.reduceLeDiff, Nat.reduceBEq, Nat.reduceLT, Nat.reduceSub, Int.reduceLT, Int.reduceLE, Int.reduceEq, Int.reduceToNat, Nat.reduceMul, eq_self, implies_true, forall_const, e0, e1, e9, e13, e14, e15, e16]
              simp only [y1, y2]
              refine ⟨⟨by omega, by omega, fun h0 => by rw [hxv 0 (by omega)]; rfl⟩, ⟨by omega, by omega, by omega, fun h0 => by rw [hxv _ (by omega)]; rfl⟩, ?_⟩
              refine CallW.fz (p18 hG0 gd xv (fun i => xv (c + i)) _ _ (fun i hi => hxv i (by omega)) (fun i hi => hxv (c + i) (by omega))) (by rw [gni, gnr]; rfl) rfl fun q ⟨of, nf, hq, hof, hnf⟩ => ⟨by subst hq; rfl, ?_⟩
              subst hq
              simp -implicitDefEqProofs only [vqa, Nat.reduceEqDiff, Nat.reduceAdd, reduceIte, Nat.reduceLeDiff, Nat.reduceBEq, Nat.reduceLT, Nat.reduceSub, Int.reduceLT, Int.reduceLE, Int.reduceEq, Int.reduceToNat, Nat.reduceMul, eq_self, implies_true, forall_const, e0, e1, e9, e13, e14, e15, e16]
              have w5 : IntKind.i64.wrap ((T : Int) - (T : Int)) = 0 := by rw [Int.sub_self]; rfl
              simp only [w5, w0]
              refine ⟨⟨by omega, by omega, by omega, fun h0 => by rw [show Int.toNat 0 = 0 from rfl, (hLs 0 (by omega)).2.2]; rfl⟩, ?_⟩
              refine CallW.sc (p19 G.nk T (fun i => litB G xv (fun i => xv (c + i)) (G.outs i)) (fun i => M.lv xv (fun i => xv (c + i)) (L i)) of (fun i => h (Int.toNat 0 + i)) hof (fun i hi => by rw [show Int.toNat 0 = 0 from rfl, Nat.zero_add]; exact (hLs i hi).2.2) (by omega) (by omega)) rfl ⟨trivial, trivial, trivial⟩ fun q ⟨z, hq, hz⟩ => ⟨by subst hq; rfl, ?_⟩
              obtain rfl : z = true := hz.2 ⟨gnk, fun i _ => by rw [glit, gout]⟩
              subst hq
              simp -implicitDefEqProofs only [vqa, Nat.reduceEqDiff, Nat.reduceAdd, reduceIte, Nat.reduceLeDiff, Nat.reduceBEq, Nat.reduceLT, Nat.reduceSub, Int.reduceLT, Int.reduceLE, Int.reduceEq, Int.reduceToNat, Nat.reduceMul, eq_self, implies_true, forall_const, e0, e1, e9, e13, e14, e15, e16, Bool.not_true]
              refine vFor r (fun i e m => e 16 = .fs T h ∧ e 36 = .fs G.nr nf ∧ e 297 = .int .i64 r ∧ e 298 = .int .i64 i) ?_ ?_ ?_
              · simp -implicitDefEqProofs only [vqa, Nat.reduceEqDiff, Nat.reduceAdd, reduceIte, Nat.reduceLeDiff, Nat.reduceBEq, Nat.reduceLT, Nat.reduceSub, Int.reduceLT, Int.reduceLE, Int.reduceEq, Int.reduceToNat, Nat.reduceMul, eq_self, implies_true, forall_const, e16]
              · clear e0 e1 e9 m42 m40 e13 e14 e15 e16 e207 e208 e28 e
                rintro i e mm hi hi' ⟨e16, e36, e297, e298⟩
                have wT1 : IntKind.i64.wrap (IntKind.i64.wrap ((T : Int) - 1) - (i : Int)) = ((T - 1 - i : Nat) : Int) := by rw [wI (n := (T : Int) - 1) (by omega) (by omega), wI (by omega) (by omega)]; omega
                have k1 := hnf i (by omega)
                have k2 := (hLs (T - 1 - i) (by omega)).2.2
                rw [glit, gnx] at k1
                unfold a3_5
                simp -implicitDefEqProofs only [vqa, Nat.reduceEqDiff, Nat.reduceAdd, reduceIte, Nat.reduceLeDiff, Nat.reduceBEq, Nat.reduceLT, Nat.reduceSub, Int.reduceLT, Int.reduceLE, Int.reduceEq, Int.reduceToNat, Nat.reduceMul, eq_self, implies_true, forall_const, e16, e36, e297, e298, hi']
                refine vAny [0, 1, 2, 3, 4, 5, 6, 7, 8, 9, 10, 11, 12] 13 allL (by kernel_rfl) (by kernel_rfl) ?_
                simp -implicitDefEqProofs only [vqa, Nat.reduceEqDiff, Nat.reduceAdd, reduceIte, Nat.reduceLeDiff, Nat.reduceBEq, Nat.reduceLT, Nat.reduceSub, Int.reduceLT, Int.reduceLE, Int.reduceEq, Int.reduceToNat, Nat.reduceMul, eq_self, implies_true, forall_const, e16, e36, e297, e298, wT1, k1, k2, beq_self_eq_true, Bool.not_true]
                exact ⟨⟨by omega, by omega⟩, ⟨by omega, by omega⟩, hi, wI (by omega) (by omega)⟩
              · clear e0 e1 e9 m42 m40 e13 e14 e15 e16 e207 e208 e28 e
                rintro e mm ⟨e16, e36, e297, e298⟩
                unfold a3_5
                simp -implicitDefEqProofs only [vqa, Nat.reduceEqDiff, Nat.reduceAdd, reduceIte, Nat.reduceLeDiff, Nat.reduceBEq, Nat.reduceLT, Nat.reduceSub, Int.reduceLT, Int.reduceLE, Int.reduceEq, Int.reduceToNat, Nat.reduceMul, eq_self, implies_true, forall_const, e16, e36, e297, e298]
end Go.Ab
