/- Walks: what the reference reads off a graph. -/
import Derived.Test.YtodncnlnadgkhacSaGSame
import Derived.Test.YtodncnlnadgkhacFwT
import Derived.Test.YtodncnlnadgkhacSaEqB
import Derived.Test.YtodncnlnadgkhacLwValues
set_option linter.unusedSimpArgs false
set_option linter.unusedVariables false
namespace Go.Ab
open Go
def a18_0 : AC := (.seq (.ops [⟨(some 21), none, (.v (.bin .lss (.t 20) (.t 19)))⟩]) (.seq (.cond (.t 21) .skip (.exit 0)) (.seq (.block 1 (.seq (.ops [⟨(some 22), none, (.v (.idx 1 (.t 18) (.t 20)))⟩, ⟨(some 23), none, (.v (.load 1 false (.t 22)))⟩, ⟨(some 10), none, (.v (.mv (.t 23)))⟩]) (.ops [⟨(some 24), none, (.v (.mv (.t 6)))⟩, ⟨(some 25), none, (.v (.mv (.t 8)))⟩, ⟨(some 26), none, (.v (.mv (.t 10)))⟩, ⟨(some 27), none, (.call (.c (.fn 52 [])) [(.t 25), (.t 26)])⟩, ⟨(some 28), none, (.e (.lit 28 4 1 1 [(.bool false)] [(0, (.t 27))]))⟩, ⟨(some 29), none, (.e (.app 29 4 1 1 (.t 24) (.t 28)))⟩, ⟨(some 6), none, (.v (.mv (.t 29)))⟩]))) (.ops [⟨(some 30), none, (.v (.bin .add (.t 20) (.c (.int .i64 1))))⟩, ⟨(some 20), none, (.v (.mv (.t 30)))⟩]))))
def a18_1 : AC := (.seq (.ops [⟨(some 35), none, (.v (.bin .lss (.t 34) (.t 33)))⟩]) (.seq (.cond (.t 35) .skip (.exit 2)) (.seq (.block 3 (.seq (.ops [⟨(some 36), none, (.v (.idx 3 (.t 32) (.t 34)))⟩, ⟨(some 37), none, (.v (.load 3 true (.t 36)))⟩, ⟨(some 12), none, (.e (.alloc 12 [(.str ⟨#[]⟩), (.int .i64 0), (.bool false)]))⟩, ⟨none, none, (.e (.store 3 (.t 12) (.t 37)))⟩]) (.ops [⟨(some 38), none, (.v (.mv (.t 7)))⟩, ⟨(some 39), none, (.v (.mv (.t 8)))⟩, ⟨(some 40), none, (.v (.fld 1 (.t 12)))⟩, ⟨(some 41), none, (.v (.load 1 false (.t 40)))⟩, ⟨(some 42), none, (.call (.c (.fn 52 [])) [(.t 39), (.t 41)])⟩, ⟨(some 43), none, (.e (.lit 43 4 1 1 [(.bool false)] [(0, (.t 42))]))⟩, ⟨(some 44), none, (.e (.app 44 4 1 1 (.t 38) (.t 43)))⟩, ⟨(some 7), none, (.v (.mv (.t 44)))⟩]))) (.ops [⟨(some 45), none, (.v (.bin .add (.t 34) (.c (.int .i64 1))))⟩, ⟨(some 34), none, (.v (.mv (.t 45)))⟩]))))
def a18 : AC := (.seq (.ops [⟨(some 3), none, (.e (.box 3 0 (.t 0)))⟩, ⟨(some 6), none, (.v (.mv (.c .cap0)))⟩, ⟨(some 7), none, (.v (.mv (.c .cap0)))⟩]) (.seq (.ops [⟨(some 13), none, (.v (.load 5 true (.t 3)))⟩, ⟨(some 14), none, (.v (.mv (.t 1)))⟩, ⟨(some 15), none, (.v (.mv (.t 2)))⟩, ⟨(some 16), none, (.call (.c (.fn 51 [])) [(.t 13), (.t 14), (.t 15)])⟩, ⟨(some 8), none, (.v (.mv (.t 16)))⟩]) (.seq (.seq (.ops [⟨(some 17), none, (.v (.fld 4 (.t 3)))⟩, ⟨(some 18), none, (.v (.load 1 false (.t 17)))⟩, ⟨(some 19), none, (.v (.len (.t 18)))⟩, ⟨(some 20), none, (.v (.mv (.c (.int .i64 0))))⟩]) (.block 0 (.loop a18_0))) (.seq (.seq (.ops [⟨(some 31), none, (.v (.fld 2 (.t 3)))⟩, ⟨(some 32), none, (.v (.load 1 false (.t 31)))⟩, ⟨(some 33), none, (.v (.len (.t 32)))⟩, ⟨(some 34), none, (.v (.mv (.c (.int .i64 0))))⟩]) (.block 2 (.loop a18_1))) (.seq (.ops [⟨(some 46), none, (.v (.mv (.t 6)))⟩, ⟨(some 47), none, (.v (.mv (.t 7)))⟩, ⟨(some 6), none, (.v (.mv (.t 46)))⟩, ⟨(some 7), none, (.v (.mv (.t 47)))⟩]) .ret)))))
def r18 : List AI := [(.mv (.t 6)), (.mv (.t 7))]
theorem f18 : Fn PP 18 3 a18 r18 := Fn.of (fn := Go.Proofs.Try.f18) (by kernel_rfl) (by kernel_rfl) (by kernel_rfl)
def b51_0 (b : Nat) : AC := (.seq (.ops [⟨(some 38), none, (.v (.bin .lss (.t 37) (.t 36)))⟩]) (.seq (.cond (.t 38) .skip (.exit 0)) (.seq (.block 1 (.seq (.ops [⟨(some 39), none, (.v (.mv (.t 37)))⟩, ⟨(some 40), none, (.v (.idx 1 (.t 35) (.t 37)))⟩, ⟨(some 41), none, (.v (.load 1 false (.t 40)))⟩, ⟨(some 8), none, (.v (.mv (.t 39)))⟩, ⟨(some 9), none, (.v (.mv (.t 41)))⟩]) (.seq (.ops [⟨(some 42), none, (.v (.mv (.t 7)))⟩, ⟨(some 43), none, (.v (.nilck (.t 42)))⟩, ⟨(some 44), none, (.v (.fld 5 (.t 43)))⟩, ⟨(some 45), none, (.v (.load 1 false (.t 44)))⟩, ⟨(some 46), none, (.v (.mv (.t 8)))⟩, ⟨(some 47), none, (.v (.bin .add (.c (.int .i64 1)) (.t 46)))⟩, ⟨(some 48), none, (.v (.idx 1 (.t 45) (.t 47)))⟩, ⟨none, none, (.e (.store 1 (.t 48) (.c (.int .u8 1))))⟩]) (.seq (.ops [⟨(some 49), none, (.v (.mv (.t 9)))⟩]) (.cond (.t 49) (.ops [⟨(some 50), none, (.v (.mv (.t 7)))⟩, ⟨(some 51), none, (.v (.nilck (.t 50)))⟩, ⟨(some 52), none, (.v (.fld 5 (.t 51)))⟩, ⟨(some 53), none, (.v (.load 1 false (.t 52)))⟩, ⟨(some 54), none, (.v (.mv (.t 8)))⟩, ⟨(some 55), none, (.v (.bin .add (.c (.int .i64 1)) (.t 54)))⟩, ⟨(some 56), none, (.v (.idx 1 (.t 53) (.t 55)))⟩, ⟨none, none, (.e (.store 1 (.t 56) (.c (.int .u8 2))))⟩]) .skip))))) (.ops [⟨(some 57), none, (.v (.bin .add (.t 37) (.c (.int .i64 1))))⟩, ⟨(some 37), none, (.v (.mv (.t 57)))⟩]))))
def b51 (b : Nat) : AC := (.seq (.ops [⟨(some 3), none, (.e (.box (b + 3) 0 (.t 0)))⟩, ⟨(some 6), none, (.v (.mv (.c .nilp)))⟩]) (.seq (.any [⟨(some 10), none, (.v (.load 5 true (.t 3)))⟩, ⟨(some 11), none, (.v (.fld 0 (.t 3)))⟩, ⟨(some 12), none, (.v (.load 1 false (.t 11)))⟩, ⟨(some 13), none, (.v (.len (.t 12)))⟩, ⟨(some 14), none, (.v (.bin .add (.c (.int .i64 1)) (.t 13)))⟩, ⟨(some 15), none, (.v (.fld 2 (.t 3)))⟩, ⟨(some 16), none, (.v (.load 1 false (.t 15)))⟩, ⟨(some 17), none, (.v (.len (.t 16)))⟩, ⟨(some 18), none, (.v (.bin .add (.t 14) (.t 17)))⟩, ⟨(some 19), none, (.v (.fld 3 (.t 3)))⟩, ⟨(some 20), none, (.v (.load 1 false (.t 19)))⟩, ⟨(some 21), none, (.v (.len (.t 20)))⟩, ⟨(some 22), none, (.v (.bin .add (.t 18) (.t 21)))⟩, ⟨(some 23), none, (.e (.make (b + 23) 5 1 1 [(.int .u8 0)] (.t 22) (.t 22)))⟩, ⟨(some 24), none, (.v (.build [.cap0, .cap0, .cap0, .cap0, .cap0, .cap0] [(0, (5, (.t 10))), (5, (1, (.t 23)))]))⟩, ⟨(some 25), none, (.e (.box (b + 25) 0 (.t 24)))⟩, ⟨(some 7), none, (.v (.mv (.t 25)))⟩] [[], [], [1], [2], [3], [], [5], [6], [4, 7], [], [9], [10], [8, 11], [12, 12], [0, 13], [14], [15, 0, 1, 2, 3, 4, 5, 6, 7, 8, 9, 10, 11, 12, 13, 14, 15]]) (.seq (.ops [⟨(some 26), none, (.v (.mv (.t 7)))⟩, ⟨(some 27), none, (.v (.nilck (.t 26)))⟩, ⟨(some 28), none, (.v (.fld 5 (.t 27)))⟩, ⟨(some 29), none, (.v (.load 1 false (.t 28)))⟩, ⟨(some 30), none, (.v (.idx 1 (.t 29) (.c (.int .i64 0))))⟩, ⟨none, none, (.e (.store 1 (.t 30) (.c (.int .u8 1))))⟩]) (.seq (.seq (.ops [⟨(some 31), none, (.e (.lit (b + 31) 4 1 0 [(.bool false)] []))⟩, ⟨(some 32), none, (.v (.mv (.t 1)))⟩, ⟨(some 33), none, (.e (.app (b + 33) 4 1 1 (.t 31) (.t 32)))⟩, ⟨(some 34), none, (.v (.mv (.t 2)))⟩, ⟨(some 35), none, (.e (.app (b + 35) 4 1 1 (.t 33) (.t 34)))⟩, ⟨(some 36), none, (.v (.len (.t 35)))⟩, ⟨(some 37), none, (.v (.mv (.c (.int .i64 0))))⟩]) (.block 0 (.loop (b51_0 b)))) (.seq (.ops [⟨(some 58), none, (.v (.mv (.t 7)))⟩, ⟨(some 6), none, (.v (.mv (.t 58)))⟩]) .ret)))))
def q51 : List AI := [(.mv (.t 6))]
theorem g51 (b : Nat) : Fn PP 51 3 (b51 b) q51 := Fn.ofB b (fn := Go.Proofs.Try.f51) (by kernel_rfl) (by kernel_rfl) (by kernel_rfl)
def b52 (b : Nat) : AC := (.seq (.ops [⟨(some 4), none, (.v (.mv (.c (.bool false))))⟩]) (.seq (.ops [⟨(some 7), none, (.v (.mv (.t 1)))⟩, ⟨(some 8), none, (.v (.bin .shr (.t 7) (.c (.int .u64 1))))⟩, ⟨(some 5), none, (.v (.mv (.t 8)))⟩]) (.seq (.seq (.ops [⟨(some 9), none, (.v (.mv (.t 0)))⟩, ⟨(some 10), none, (.v (.nilck (.t 9)))⟩, ⟨(some 11), none, (.v (.fld 5 (.t 10)))⟩, ⟨(some 12), none, (.v (.load 1 false (.t 11)))⟩, ⟨(some 13), none, (.v (.mv (.t 5)))⟩, ⟨(some 14), none, (.v (.idx 1 (.t 12) (.t 13)))⟩, ⟨(some 15), none, (.v (.load 1 false (.t 14)))⟩, ⟨(some 16), none, (.v (.bin .eql (.t 15) (.c (.int .u8 0))))⟩]) (.cond (.t 16) (.seq (.any [⟨(some 17), none, (.v (.mv (.t 0)))⟩, ⟨(some 18), none, (.v (.nilck (.t 17)))⟩, ⟨(some 19), none, (.v (.fld 0 (.t 18)))⟩, ⟨(some 20), none, (.v (.fld 3 (.t 19)))⟩, ⟨(some 21), none, (.v (.load 1 false (.t 20)))⟩, ⟨(some 22), none, (.v (.mv (.t 5)))⟩, ⟨(some 23), none, (.v (.bin .sub (.t 22) (.c (.int .i64 1))))⟩, ⟨(some 24), none, (.v (.mv (.t 0)))⟩, ⟨(some 25), none, (.v (.nilck (.t 24)))⟩, ⟨(some 26), none, (.v (.fld 0 (.t 25)))⟩, ⟨(some 27), none, (.v (.fld 0 (.t 26)))⟩, ⟨(some 28), none, (.v (.load 1 false (.t 27)))⟩, ⟨(some 29), none, (.v (.len (.t 28)))⟩, ⟨(some 30), none, (.v (.bin .sub (.t 23) (.t 29)))⟩, ⟨(some 31), none, (.v (.mv (.t 0)))⟩, ⟨(some 32), none, (.v (.nilck (.t 31)))⟩, ⟨(some 33), none, (.v (.fld 0 (.t 32)))⟩, ⟨(some 34), none, (.v (.fld 2 (.t 33)))⟩, ⟨(some 35), none, (.v (.load 1 false (.t 34)))⟩, ⟨(some 36), none, (.v (.len (.t 35)))⟩, ⟨(some 37), none, (.v (.bin .sub (.t 30) (.t 36)))⟩, ⟨(some 38), none, (.v (.idx 2 (.t 21) (.t 37)))⟩, ⟨(some 39), none, (.v (.load 2 true (.t 38)))⟩, ⟨(some 6), none, (.e (.alloc (b + 6) [(.int .i64 0), (.int .i64 0)]))⟩, ⟨none, none, (.e (.store 2 (.t 6) (.t 39)))⟩] [[], [0], [1], [2], [3], [], [5], [], [7], [8], [9], [10], [11], [6, 12], [], [14], [15], [16], [17], [18], [13, 19], [4, 20], [21], [], [23, 22, 0, 1, 2, 3, 4, 5, 6, 7, 8, 9, 10, 11, 12, 13, 14, 15, 16, 17, 18, 19, 20, 21, 22, 23]]) (.seq (.ops [⟨(some 40), none, (.v (.mv (.t 0)))⟩, ⟨(some 41), none, (.v (.nilck (.t 40)))⟩, ⟨(some 42), none, (.v (.fld 5 (.t 41)))⟩, ⟨(some 43), none, (.v (.load 1 false (.t 42)))⟩, ⟨(some 44), none, (.v (.mv (.t 5)))⟩, ⟨(some 45), none, (.v (.idx 1 (.t 43) (.t 44)))⟩, ⟨none, none, (.e (.store 1 (.t 45) (.c (.int .u8 1))))⟩]) (.seq (.ops [⟨(some 46), none, (.v (.mv (.t 0)))⟩, ⟨(some 47), none, (.v (.fld 0 (.t 6)))⟩, ⟨(some 48), none, (.v (.load 1 false (.t 47)))⟩, ⟨(some 49), none, (.call (.c (.fn 52 [])) [(.t 46), (.t 48)])⟩, ⟨(some 50), none, (.v (.mv (.t 49)))⟩, ⟨(some 51), (some (50, true)), (.v (.mv (.t 0)))⟩, ⟨(some 52), (some (50, true)), (.v (.fld 1 (.t 6)))⟩, ⟨(some 53), (some (50, true)), (.v (.load 1 false (.t 52)))⟩, ⟨(some 54), (some (50, true)), (.call (.c (.fn 52 [])) [(.t 51), (.t 53)])⟩, ⟨(some 55), none, (.v (.pick (.t 50) (.t 54) (.c (.bool false))))⟩]) (.cond (.t 55) (.ops [⟨(some 56), none, (.v (.mv (.t 0)))⟩, ⟨(some 57), none, (.v (.nilck (.t 56)))⟩, ⟨(some 58), none, (.v (.fld 5 (.t 57)))⟩, ⟨(some 59), none, (.v (.load 1 false (.t 58)))⟩, ⟨(some 60), none, (.v (.mv (.t 5)))⟩, ⟨(some 61), none, (.v (.idx 1 (.t 59) (.t 60)))⟩, ⟨none, none, (.e (.store 1 (.t 61) (.c (.int .u8 2))))⟩]) .skip)))) .skip)) (.seq (.ops [⟨(some 62), none, (.v (.mv (.t 0)))⟩, ⟨(some 63), none, (.v (.nilck (.t 62)))⟩, ⟨(some 64), none, (.v (.fld 5 (.t 63)))⟩, ⟨(some 65), none, (.v (.load 1 false (.t 64)))⟩, ⟨(some 66), none, (.v (.mv (.t 5)))⟩, ⟨(some 67), none, (.v (.idx 1 (.t 65) (.t 66)))⟩, ⟨(some 68), none, (.v (.load 1 false (.t 67)))⟩, ⟨(some 69), none, (.v (.bin .eql (.t 68) (.c (.int .u8 2))))⟩, ⟨(some 70), none, (.v (.mv (.t 1)))⟩, ⟨(some 71), none, (.v (.bin .and (.t 70) (.c (.int .i64 1))))⟩, ⟨(some 72), none, (.v (.bin .eql (.t 71) (.c (.int .i64 1))))⟩, ⟨(some 73), none, (.v (.beq true (.t 69) (.t 72)))⟩, ⟨(some 4), none, (.v (.mv (.t 73)))⟩]) .ret))))
def q52 : List AI := [(.mv (.t 4))]
theorem g52 (b : Nat) : Fn PP 52 2 (b52 b) q52 := Fn.ofB b (fn := Go.Proofs.Try.f52) (by kernel_rfl) (by kernel_rfl) (by kernel_rfl)

/-- A sheet at object o, its marks at object d. -/
def ShA (mem : Mem) (o v d dv : Nat) (cs : List AV) (n : Nat) (s : Nat → Int) : Prop := o ≠ d ∧ mem o = .var v (cs ++ [.sl d dv n]) ∧ ∃ g, mem d = .row dv 5 1 n g ∧ ∀ k, k < n → g k = .int .u8 (s k)
theorem ShA.congr {mem mem' : Mem} {o v d dv n : Nat} {cs : List AV} {s : Nat → Int} (h : ShA mem o v d dv cs n s) (h1 : mem' o = mem o) (h2 : mem' d = mem d) : ShA mem' o v d dv cs n s := by
  obtain ⟨a, b, g, c, e⟩ := h
  exact ⟨a, by rw [h1, b], g, by rw [h2, c], e⟩
/-- The mark of a truth. -/
def mkB (b : Bool) : Int := if b = true then 2 else 1
theorem mkB_ne (b : Bool) : mkB b ≠ 0 := by cases b <;> decide
/-- The marks up to node i are right, so far as there are any. -/
structure ShI (G : Gra) (x y : Nat → Bool) (s : Nat → Int) (i : Nat) : Prop where
  lo : ∀ k, k < G.base → s k = mkB (nodeB G x y k)
  up : ∀ k, k ≤ i → s k = 0 ∨ s k = mkB (nodeB G x y k)
structure ShP (G : Gra) (x y : Nat → Bool) (s s' : Nat → Int) (i : Nat) : Prop where
  lo : ∀ k, k < G.base → s' k = mkB (nodeB G x y k)
  up : ∀ k, k ≤ i → s' k = 0 ∨ s' k = mkB (nodeB G x y k)
  it : s' i = mkB (nodeB G x y i)
  far : ∀ k, i < k → s' k = s k
theorem ShI.put {G : Gra} {x y : Nat → Bool} {s : Nat → Int} {i j : Nat} (h : ShI G x y s i) (c : Int) (hi : G.base ≤ i) (hj : j < i) : ShI G x y (fun k => if k = i then c else s k) j :=
  ⟨fun k hk => by show (if k = i then c else s k) = _; rw [if_neg (by omega)]; exact h.lo k hk, fun k hk => by show (if k = i then c else s k) = _ ∨ (if k = i then c else s k) = _; rw [if_neg (by omega)]; exact h.up k (by omega)⟩
theorem ShP.inv {G : Gra} {x y : Nat → Bool} {s s' : Nat → Int} {i j n : Nat} (h : ShP G x y s s' i) (hs : ∀ k, k < n → s k = 0 ∨ s k = mkB (nodeB G x y k)) (hj : j < n) : ShI G x y s' j :=
  ⟨h.lo, fun k hk => by
    by_cases e : k ≤ i
    · exact h.up k e
    · rw [h.far k (by omega)]; exact hs k (by omega)⟩

theorem ShA.wr {m : Mem} {o v d dv n i : Nat} {cs : List AV} {s : Nat → Int} {g : Nat → AV} (c : Int) (hod : o ≠ d) (hmo : m o = .var v (cs ++ [.sl d dv n])) (hg : ∀ k, k < n → g k = .int .u8 (s k)) :
    ShA (Mem.set d (.row dv 5 1 n fun j => bif decide (j = i) then .int .u8 c else g j) m) o v d dv cs n fun k => if k = i then c else s k := by
  refine ⟨hod, by rw [set_ne hod]; exact hmo, _, set_same _ _ _, fun k hk => ?_⟩
  by_cases e : k = i
  · simp only [e, decide_true, cond_true, if_true]
  · simp only [e, decide_false, cond_false, if_false]; exact hg k hk
theorem sheet_lit (v : Bool) (l : Int) : (!(decide (mkB v = 2) == decide (l % 2 = 1))) = Bool.xor v (decide (l % 2 = 1)) := by
  cases v <;> simp [mkB]
theorem p52 {G : Gra} {cs : List AV} (hG : GraC cs G) (gd : G.Good) (x y : Nat → Bool) : ∀ (N : Nat) (b : Nat) (mem : Mem) (o v d dv : Nat) (s : Nat → Int) (l : Int), ndx l < N → litOk G.nodes l → ShA mem o v d dv cs G.nodes s → ShI G x y s (ndx l) → o < b → d < b →
    CallW PP 52 [.ptr o v 0, .int .i64 l] mem fun r m => r = .bool (litB G x y l) ∧ ∃ s', ShA m o v d dv cs G.nodes s' ∧ ShP G x y s s' (ndx l) ∧ ∀ i, i < b → i ≠ d → m i = mem i := by
  intro N
  induction N with
  | zero => exact fun _ _ _ _ _ _ _ _ h => absurd h (Nat.not_lt_zero _)
  | succ N IH =>
    intro b mem o v d dv s l hN hl hS hI ho hd
    have hG0 := hG
    obtain ⟨f0, f1, f2, f3, f4, rfl, g0, g1, g2, g3, g4⟩ := hG
    have b1 := gd.ni; have b2 := gd.nr; have b3 := gd.na
    have hbE : G.base = 1 + G.ni + G.nr := rfl
    have hnE : G.nodes = G.base + G.na := rfl
    obtain ⟨hod, hmo, g, hmd, hg⟩ := id hS
    simp only [List.cons_append, List.nil_append] at hmo
    have ne1 : (o = d) = False := eq_false hod
    have ne2 : (d = o) = False := eq_false (Ne.symm hod)
    have hlt := ndx_lt hl
    have wl := ndx_shr hl
    have h2 := hl.2
    have a1 := and_one hl.1 (show l ≤ 9223372036854775807 by omega)
    refine Fn.call fmix (g52 b) ?_
    unfold b52 q52
    simp -implicitDefEqProofs only [vqa, Nat.reduceEqDiff, Nat.reduceAdd, reduceIte, Nat.reduceLeDiff, Nat.reduceBEq, Nat.reduceLT, Nat.reduceSub, Int.reduceLT, Int.reduceLE, Int.reduceEq, Int.reduceToNat, Nat.reduceMul, eq_self, implies_true, forall_const, hmo, hmd, bNe ho, bNe' ho, bNe hd, bNe' hd, ne1, ne2, wl, hg _ hlt, a1]
    have fin : ∀ {c : Int}, c = mkB (nodeB G x y (ndx l)) → (!(decide (c = 2) == decide (l % 2 = 1))) = litB G x y l := fun h => by rw [h, sheet_lit]; rfl
    refine ⟨by omega, hlt, fun k1 => ?_, fun k1 => ?_⟩
    · have hge : G.base ≤ ndx l := by
        by_cases h : G.base ≤ ndx l
        · exact h
        · exact absurd (k1.symm.trans (hI.lo _ (by omega))).symm (mkB_ne _)
      obtain ⟨j, hj⟩ : ∃ j, ndx l = G.base + j := ⟨ndx l - G.base, by omega⟩
      have hjn : j < G.na := by omega
      have hw : IntKind.i64.wrap (IntKind.i64.wrap (IntKind.i64.wrap ((ndx l : Nat) - (1 : Int)) - (G.ni : Int)) - (G.nr : Int)) = (j : Nat) := by
        rw [wI (n := ((ndx l : Nat) : Int) - 1) (by omega) (by omega), wI (n := ((ndx l : Nat) : Int) - 1 - G.ni) (by omega) (by omega), wI (by omega) (by omega)]
        omega
      have okA := gd.A j hjn
      have okB := gd.B j hjn
      have lA := ndx_lt okA
      have lB := ndx_lt okB
      have hval : nodeB G x y (ndx l) = (litB G x y (G.A j) && litB G x y (G.B j)) := by rw [hj]; exact nodeB_and gd hjn
      refine vAny [0, 1, 2, 3, 4, 5, 6, 7, 8, 9, 10, 11, 12, 13, 14, 15, 16, 17, 18, 19, 20, 21, 22, 23, 24] 25 (oneL o) (by kernel_rfl) (by kernel_rfl) ?_
      simp -implicitDefEqProofs only [vqa, Nat.reduceEqDiff, Nat.reduceAdd, reduceIte, Nat.reduceLeDiff, Nat.reduceBEq, Nat.reduceLT, Nat.reduceSub, Int.reduceLT, Int.reduceLE, Int.reduceEq, Int.reduceToNat, Nat.reduceMul, eq_self, implies_true, forall_const, hmo, hmd, bNe ho, bNe' ho, bNe hd, bNe' hd, ne1, ne2, hw, g3 j hjn]
      have hS0 : ShA (Mem.set d (.row dv 5 1 G.nodes fun j => bif decide (j = ndx l) then .int .u8 1 else g j) (Mem.set (b + 6) (AO.var ((mem (b + 6)).ver + 1) [AV.int .i64 (G.A j), AV.int .i64 (G.B j)]) (Mem.set (b + 6) (AO.var ((mem (b + 6)).ver + 1) [AV.int .i64 0, AV.int .i64 0]) mem))) o v d dv [AV.fs G.ni f0, AV.fs G.no f1, AV.fs G.nr f2, AV.fs G.na f3, AV.fs G.nk f4] G.nodes (fun k => if k = ndx l then 1 else s k) := by
        refine ShA.wr 1 hod ?_ hg
        simp only [set_at, bNe ho, if_false]
        exact hmo
      refine ⟨⟨by omega, by omega⟩, by omega, hlt, ?_⟩
      refine (IH (b + 100) _ o v d dv _ (G.A j) (by omega) ⟨okA.1, by have := okA.2; omega⟩ hS0 (hI.put 1 hge (by omega)) (by omega) (by omega)).mono fun r m1 ⟨hr, s1, hS1, hP1, hK1⟩ => ?_
      subst hr
      have hm16 : m1 (b + 6) = .var ((mem (b + 6)).ver + 1) [AV.int .i64 (G.A j), AV.int .i64 (G.B j)] := by
        rw [hK1 _ (by omega) (by omega)]
        simp only [set_at, bNe' hd, if_false, if_true]
      have hK1' : ∀ i, i < b → i ≠ d → m1 i = mem i := fun i hi hid => by
        rw [hK1 i (by omega) hid, set_ne hid, set_ne (by omega), set_ne (by omega)]
      obtain ⟨_, hmo1, g1', hmd1, hg1'⟩ := id hS1
      simp only [List.cons_append, List.nil_append] at hmo1
      -- what is behind both
      have endT : ∀ (s2 : Nat → Int), ShP G x y s1 s2 (ndx (G.B j)) → (litB G x y (G.A j) && litB G x y (G.B j)) = true → ShP G x y s (fun k => if k = ndx l then 2 else s2 k) (ndx l) := fun s2 hP2 ht => by
        rw [← hval] at ht
        refine ⟨fun k hk => ?_, fun k hk => ?_, ?_, fun k hk => ?_⟩
        · show (if k = ndx l then (2 : Int) else s2 k) = _
          rw [if_neg (by omega)]; exact hP2.lo k hk
        · show (if k = ndx l then (2 : Int) else s2 k) = _ ∨ (if k = ndx l then (2 : Int) else s2 k) = _
          by_cases e : k = ndx l
          · rw [if_pos e, e, ht]; exact .inr rfl
          · rw [if_neg e]
            by_cases h1 : k ≤ ndx (G.B j)
            · exact hP2.up k h1
            · rw [hP2.far k (by omega)]
              by_cases h2 : k ≤ ndx (G.A j)
              · exact hP1.up k h2
              · rw [hP1.far k (by omega), if_neg e]; exact hI.up k (by omega)
        · show (if ndx l = ndx l then (2 : Int) else s2 (ndx l)) = _
          rw [if_pos rfl, ht]; rfl
        · show (if k = ndx l then (2 : Int) else s2 k) = _
          rw [if_neg (by omega), hP2.far k (by omega), hP1.far k (by omega), if_neg (by omega)]
      have endF : ∀ (s2 : Nat → Int), (∀ k, k < G.base → s2 k = mkB (nodeB G x y k)) → (∀ k, k < ndx l → s2 k = 0 ∨ s2 k = mkB (nodeB G x y k)) → (∀ k, ndx l ≤ k → s2 k = s1 k) → (litB G x y (G.A j) && litB G x y (G.B j)) = false → ShP G x y s s2 (ndx l) := fun s2 h1 h2 h3 ht => by
        rw [← hval] at ht
        have e0 : s2 (ndx l) = 1 := by rw [h3 _ (Nat.le_refl _), hP1.far _ (by omega), if_pos rfl]
        refine ⟨h1, fun k hk => ?_, by rw [e0, ht]; rfl, fun k hk => ?_⟩
        · by_cases e : k = ndx l
          · rw [e, e0, ht]; exact .inr rfl
          · exact h2 k (by omega)
        · rw [h3 k (by omega), hP1.far k (by omega), if_neg (by omega)]
      cases hA : litB G x y (G.A j) with
      | false =>
        have hP : ShP G x y s s1 (ndx l) := endF s1 hP1.lo (fun k hk => by
          by_cases h2 : k ≤ ndx (G.A j)
          · exact hP1.up k h2
          · rw [hP1.far k (by omega), if_neg (by omega)]; exact hI.up k (by omega)) (fun _ _ => rfl) (by rw [hA]; rfl)
        simp -implicitDefEqProofs only [vqa, Nat.reduceEqDiff, Nat.reduceAdd, reduceIte, Nat.reduceLeDiff, Nat.reduceBEq, Nat.reduceLT, Nat.reduceSub, Int.reduceLT, Int.reduceLE, Int.reduceEq, Int.reduceToNat, Nat.reduceMul, eq_self, implies_true, forall_const, hm16, hmo1, hmd1, bNe ho, bNe' ho, bNe hd, bNe' hd, ne1, ne2, wl, hg1' _ hlt, a1]
        exact ⟨by omega, hlt, fin hP.it, s1, hS1, hP, hK1'⟩
      | true =>
        simp -implicitDefEqProofs only [vqa, Nat.reduceEqDiff, Nat.reduceAdd, reduceIte, Nat.reduceLeDiff, Nat.reduceBEq, Nat.reduceLT, Nat.reduceSub, Int.reduceLT, Int.reduceLE, Int.reduceEq, Int.reduceToNat, Nat.reduceMul, eq_self, implies_true, forall_const, hm16, hmo1, hmd1, bNe ho, bNe' ho, bNe hd, bNe' hd, ne1, ne2]
        have hI1 : ShI G x y s1 (ndx (G.B j)) := ⟨hP1.lo, fun k hk => by
          by_cases h2 : k ≤ ndx (G.A j)
          · exact hP1.up k h2
          · rw [hP1.far k (by omega), if_neg (by omega)]; exact hI.up k (by omega)⟩
        refine (IH (b + 100) _ o v d dv _ (G.B j) (by omega) ⟨okB.1, by have := okB.2; omega⟩ hS1 hI1 (by omega) (by omega)).mono fun r m2 ⟨hr, s2, hS2, hP2, hK2⟩ => ?_
        subst hr
        have hK2' : ∀ i, i < b → i ≠ d → m2 i = mem i := fun i hi hid => by rw [hK2 i (by omega) hid, hK1' i hi hid]
        obtain ⟨_, hmo2, g2', hmd2, hg2'⟩ := id hS2
        have hmo2' := hmo2
        simp only [List.cons_append, List.nil_append] at hmo2
        cases hB : litB G x y (G.B j) with
        | false =>
          have hP : ShP G x y s s2 (ndx l) := endF s2 hP2.lo (fun k hk => by
            by_cases h1 : k ≤ ndx (G.B j)
            · exact hP2.up k h1
            · rw [hP2.far k (by omega)]
              by_cases h2 : k ≤ ndx (G.A j)
              · exact hP1.up k h2
              · rw [hP1.far k (by omega), if_neg (by omega)]; exact hI.up k (by omega)) (fun k hk => hP2.far k (by omega)) (by rw [hA, hB]; rfl)
          simp -implicitDefEqProofs only [vqa, Nat.reduceEqDiff, Nat.reduceAdd, reduceIte, Nat.reduceLeDiff, Nat.reduceBEq, Nat.reduceLT, Nat.reduceSub, Int.reduceLT, Int.reduceLE, Int.reduceEq, Int.reduceToNat, Nat.reduceMul, eq_self, implies_true, forall_const, hmo2, hmd2, bNe ho, bNe' ho, bNe hd, bNe' hd, ne1, ne2, wl, hg2' _ hlt, a1]
          exact ⟨by omega, hlt, fin hP.it, s2, hS2, hP, hK2'⟩
        | true =>
          have hP := endT s2 hP2 (by rw [hA, hB]; rfl)
          simp -implicitDefEqProofs only [vqa, Nat.reduceEqDiff, Nat.reduceAdd, reduceIte, Nat.reduceLeDiff, Nat.reduceBEq, Nat.reduceLT, Nat.reduceSub, Int.reduceLT, Int.reduceLE, Int.reduceEq, Int.reduceToNat, Nat.reduceMul, eq_self, implies_true, forall_const, hmo2, hmd2, bNe ho, bNe' ho, bNe hd, bNe' hd, ne1, ne2, wl, a1]
          have hP' := fin hP.it
          simp only [if_true] at hP'
          refine ⟨by omega, hlt, by omega, hlt, hP', _, ShA.wr 2 hod hmo2' hg2', hP, fun i hi hid => ?_⟩
          rw [if_neg hid, hK2' i hi hid]
    · have hv := (hI.up _ (Nat.le_refl _)).resolve_left k1
      exact ⟨by omega, hlt, fin hv, s, hS, hI.lo, hI.up, hv, fun _ _ => rfl⟩

/-- What is known of a sheet from one question to the next. -/
def ShK (G : Gra) (x y : Nat → Bool) (s : Nat → Int) : Prop := (∀ k, k < G.base → s k = mkB (nodeB G x y k)) ∧ ∀ k, k < G.nodes → s k = 0 ∨ s k = mkB (nodeB G x y k)
theorem p52k {G : Gra} {cs : List AV} (hG : GraC cs G) (gd : G.Good) (x y : Nat → Bool) (b : Nat) {mem : Mem} {o v d dv : Nat} {s : Nat → Int} {l : Int} (hl : litOk G.nodes l) (hS : ShA mem o v d dv cs G.nodes s) (hI : ShK G x y s) (ho : o < b) (hd : d < b) :
    CallW PP 52 [.ptr o v 0, .int .i64 l] mem fun r m => r = .bool (litB G x y l) ∧ (∃ s', ShA m o v d dv cs G.nodes s' ∧ ShK G x y s') ∧ ∀ i, i < b → i ≠ d → m i = mem i := by
  have hlt := ndx_lt hl
  refine (p52 hG gd x y _ b mem o v d dv s l (Nat.lt_succ_self _) hl hS ⟨hI.1, fun k hk => hI.2 k (by omega)⟩ ho hd).mono fun r m ⟨h1, s', h2, h3, h4⟩ => ⟨h1, ⟨s', h2, h3.lo, fun k hk => ?_⟩, h4⟩
  by_cases e : k ≤ ndx l
  · exact h3.up k e
  · rw [h3.far k (by omega)]; exact hI.2 k hk

theorem p51 {G : Gra} {cs : List AV} (hG : GraC cs G) (gd : G.Good) (x y : Nat → Bool) (fx fy : Nat → AV) (hx : ∀ i, i < G.ni → fx i = .bool (x i)) (hy : ∀ i, i < G.nr → fy i = .bool (y i)) (b : Nat) (mem : Mem) :
    CallW PP 51 [.agg cs, .fs G.ni fx, .fs G.nr fy] mem fun r m => ∃ v dv s, r = .ptr (b + 25) v 0 ∧ ShA m (b + 25) v (b + 23) dv cs G.nodes s ∧ ShK G x y s ∧ Keeps b mem m := by
  have hG0 := hG
  obtain ⟨f0, f1, f2, f3, f4, rfl, g0, g1, g2, g3, g4⟩ := hG
  have b1 := gd.ni; have b2 := gd.nr; have b3 := gd.na
  have hbE : G.base = 1 + G.ni + G.nr := rfl
  have hnE : G.nodes = G.base + G.na := rfl
  refine Fn.call fmix (g51 b) ?_
  unfold b51 q51
  simp -implicitDefEqProofs only [vqa, Nat.reduceEqDiff, Nat.reduceAdd, reduceIte, Nat.reduceLeDiff, Nat.reduceBEq, Nat.reduceLT, Nat.reduceSub, Int.reduceLT, Int.reduceLE, Int.reduceEq, Int.reduceToNat, Nat.reduceMul, eq_self, implies_true, forall_const]
  refine vAny [0, 1, 2, 5, 6, 9, 10, 3, 7, 11, 4, 8, 12, 13, 14, 15, 16] 17 (oneL (b + 3)) (by kernel_rfl) (by kernel_rfl) ?_
  simp -implicitDefEqProofs only [vqa, Nat.reduceEqDiff, Nat.reduceAdd, reduceIte, Nat.reduceLeDiff, Nat.reduceBEq, Nat.reduceLT, Nat.reduceSub, Int.reduceLT, Int.reduceLE, Int.reduceEq, Int.reduceToNat, Nat.reduceMul, eq_self, implies_true, forall_const]
  have wn : IntKind.i64.wrap (IntKind.i64.wrap (IntKind.i64.wrap (1 + (G.ni : Int)) + (G.nr : Int)) + (G.na : Int)) = (G.nodes : Nat) := by
    rw [wI (n := 1 + (G.ni : Int)) (by omega) (by omega), wI (n := 1 + (G.ni : Int) + (G.nr : Int)) (by omega) (by omega), wI (by omega) (by omega)]
    omega
  simp only [wn, Int.toNat_natCast]
  refine ⟨by omega, by omega, by omega, ?_⟩
  generalize hM0 : Mem.set (b + 23) _ _ = M0
  have e25 : M0 (b + 25) = .var ((mem (b + 25)).ver + 1) [.fs G.ni f0, .fs G.no f1, .fs G.nr f2, .fs G.na f3, .fs G.nk f4, .sl (b + 23) ((mem (b + 23)).ver + 1) G.nodes] := by
    rw [← hM0]; simp only [set_at, bEq]; rfl
  have e23 : ∃ g, M0 (b + 23) = .row ((mem (b + 23)).ver + 1) 5 1 G.nodes g ∧ ∀ k, g k = .int .u8 (if k = 0 then 1 else 0) := by
    refine ⟨_, by rw [← hM0]; exact set_same _ _ _, fun k => ?_⟩
    by_cases e : k = 0
    · simp only [e, decide_true, cond_true, if_true]
    · simp only [e, decide_false, cond_false, if_false]
  have eK : Keeps b mem M0 := by rw [← hM0]; simp only [keeps_set, keeps_refl]
  clear hM0
  obtain ⟨g44, e23, eg⟩ := e23
  generalize (mem (b + 25)).ver + 1 = V25 at *
  generalize (mem (b + 23)).ver + 1 = V23 at *
  refine ⟨⟨cells_of_bool hx, by omega, by omega⟩, ⟨cells_of_bool hy, by omega, by omega⟩, ?_⟩
  obtain ⟨Vr, hVr⟩ : ∃ Vr, Vr = (mem (b + 31)).ver + 1 + 1 + 1 := ⟨_, rfl⟩
  have hA : ∀ {m : Mem} {g : Nat → AV}, m (b + 31) = .row Vr 4 1 (G.ni + G.nr) g → (∀ i, i < G.ni + G.nr → g i = .bool (if i < G.ni then x i else y (i - G.ni))) → Acc2 (b + 31) (b + 35) 4 1 (G.ni + G.nr) (fun k a => a = .bool (if k < G.ni then x k else y (k - G.ni))) (.sl (b + 31) Vr (G.ni + G.nr)) m := fun h1 h2 => .inr ⟨b + 31, Vr, _, .inl rfl, rfl, h1, h2⟩
  refine vFor (G.ni + G.nr) (fun i e m => e 7 = .ptr (b + 25) V25 0 ∧ e 35 = .sl (b + 31) Vr (G.ni + G.nr) ∧ e 36 = .int .i64 (G.ni + G.nr : Nat) ∧ e 37 = .int .i64 i ∧ Acc2 (b + 31) (b + 35) 4 1 (G.ni + G.nr) (fun k a => a = .bool (if k < G.ni then x k else y (k - G.ni))) (.sl (b + 31) Vr (G.ni + G.nr)) m ∧ m (b + 25) = .var V25 [.fs G.ni f0, .fs G.no f1, .fs G.nr f2, .fs G.na f3, .fs G.nk f4, .sl (b + 23) V23 G.nodes] ∧ (∃ g, m (b + 23) = .row V23 5 1 G.nodes g ∧ ∀ k, g k = .int .u8 (if k < 1 + i then mkB (bBaseG G.ni x y k) else 0)) ∧ Keeps b mem m) ?_ ?_ ?_
  · subst hVr
    simp -implicitDefEqProofs only [vqa, Nat.reduceEqDiff, Nat.reduceAdd, reduceIte, Nat.reduceLeDiff, Nat.reduceBEq, Nat.reduceLT, Nat.reduceSub, Int.reduceLT, Int.reduceLE, Int.reduceEq, Int.reduceToNat, Nat.reduceMul, eq_self, implies_true, forall_const]
    refine ⟨hA (set_same _ _ _) fun i hi => ?_, e25, ⟨_, e23, fun k => ?_⟩, eK⟩
    · by_cases e : i < G.ni
      · simp only [e, decide_true, cond_true, if_true]; exact hx i e
      · simp only [e, decide_false, cond_false, if_false]; exact hy _ (by omega)
    rw [eg k]
    by_cases e : k = 0
    · subst e; rfl
    · rw [if_neg e, if_neg (by omega)]
  · rintro i e m hi hi' ⟨h7, h35, h36, h37, hA, h25, ⟨g, h23, hg⟩, hK⟩
    rcases id hA with ⟨hz, hv⟩ | ⟨s, ver, gg, hs, hv, hms, hgg⟩
    · omega
    have hz : (if i < G.ni then x i else y (i - G.ni)) = bBaseG G.ni x y (1 + i) := by
      unfold bBaseG
      rw [if_neg (show ¬ 1 + i = 0 by omega)]
      by_cases h : i < G.ni
      · rw [if_pos h, if_pos (by omega), show 1 + i - 1 = i by omega]
      · rw [if_neg h, if_neg (by omega), show 1 + i - 1 - G.ni = i - G.ni by omega]
    have w1 : IntKind.i64.wrap (1 + (i : Int)) = ((1 + i : Nat) : Int) := by rw [wI (by omega) (by omega)]; omega
    cases hv
    have hgi := hgg i hi
    simp only at hgi
    rw [hz] at hgi
    unfold b51_0
    have wr : ∀ k (c : Int), c = mkB (bBaseG G.ni x y (1 + i)) → ∀ q, (k ≠ 1 + i → q = .int .u8 (if k < 1 + i then mkB (bBaseG G.ni x y k) else 0)) → (bif decide (k = 1 + i) then AV.int .u8 c else q) = .int .u8 (if k < 1 + (i + 1) then mkB (bBaseG G.ni x y k) else 0) := fun k c hc q hq => by
      by_cases e : k = 1 + i
      · simp only [e, decide_true, cond_true]
        rw [if_pos (by omega), hc]
      · simp only [e, decide_false, cond_false]
        rw [hq e]
        by_cases h : k < 1 + i
        · rw [if_pos h, if_pos (by omega)]
        · rw [if_neg h, if_neg (by omega)]
    cases hbb : bBaseG G.ni x y (1 + i) with
    | false =>
      simp -implicitDefEqProofs only [vqa, Nat.reduceEqDiff, Nat.reduceAdd, reduceIte, Nat.reduceLeDiff, Nat.reduceBEq, Nat.reduceLT, Nat.reduceSub, Int.reduceLT, Int.reduceLE, Int.reduceEq, Int.reduceToNat, Nat.reduceMul, eq_self, implies_true, forall_const, h7, h35, h36, h37, h25, h23, hms, hi', hgi, hbb, w1]
      refine ⟨by omega, hi, by omega, by omega, hi, wI (by omega) (by omega), hA.keep (set_ne (by omega) _ _) (set_ne (by omega) _ _), ⟨_, rfl, fun k => ?_⟩, hK⟩
      exact wr k _ (by rw [hbb]; rfl) (g k) (fun _ => hg k)
    | true =>
      simp -implicitDefEqProofs only [vqa, Nat.reduceEqDiff, Nat.reduceAdd, reduceIte, Nat.reduceLeDiff, Nat.reduceBEq, Nat.reduceLT, Nat.reduceSub, Int.reduceLT, Int.reduceLE, Int.reduceEq, Int.reduceToNat, Nat.reduceMul, eq_self, implies_true, forall_const, h7, h35, h36, h37, h25, h23, hms, hi', hgi, hbb, w1]
      refine ⟨by omega, hi, by omega, by omega, by omega, by omega, hi, wI (by omega) (by omega), (hA.keep (set_ne (by omega) _ _) (set_ne (by omega) _ _)).keep (set_ne (by omega) _ _) (set_ne (by omega) _ _), ⟨_, rfl, fun k => ?_⟩, hK⟩
      refine wr k _ (by rw [hbb]; rfl) _ fun e => ?_
      simp only [e, decide_false, cond_false]; exact hg k
  · rintro e m ⟨h7, h35, h36, h37, hA, h25, ⟨g, h23, hg⟩, hK⟩
    unfold b51_0
    simp -implicitDefEqProofs only [vqa, Nat.reduceEqDiff, Nat.reduceAdd, reduceIte, Nat.reduceLeDiff, Nat.reduceBEq, Nat.reduceLT, Nat.reduceSub, Int.reduceLT, Int.reduceLE, Int.reduceEq, Int.reduceToNat, Nat.reduceMul, eq_self, implies_true, forall_const, h7, h35, h36, h37, h25, h23]
    refine ⟨_, _, _, rfl, ⟨by omega, h25, g, h23, fun k hk => hg k⟩, ⟨fun k hk => ?_, fun k hk => ?_⟩, hK⟩
    · show (if k < 1 + (G.ni + G.nr) then mkB (bBaseG G.ni x y k) else 0) = _
      rw [if_pos (by omega), nodeB_base hk]
    · show (if k < 1 + (G.ni + G.nr) then mkB (bBaseG G.ni x y k) else 0) = 0 ∨ (if k < 1 + (G.ni + G.nr) then mkB (bBaseG G.ni x y k) else 0) = _
      by_cases h : k < 1 + (G.ni + G.nr)
      · rw [if_pos h, nodeB_base (by omega)]; exact .inr rfl
      · rw [if_neg h]; exact .inl rfl

theorem p18 {G : Gra} {cs : List AV} (hG : GraC cs G) (gd : G.Good) (x y : Nat → Bool) (fx fy : Nat → AV) (hx : ∀ i, i < G.ni → fx i = .bool (x i)) (hy : ∀ i, i < G.nr → fy i = .bool (y i)) :
    Pure PP 18 [.agg cs, .fs G.ni fx, .fs G.nr fy] fun r => ∃ f g, r = .tup [.fs G.nk f, .fs G.nr g] ∧ (∀ i, i < G.nk → f i = .bool (litB G x y (G.outs i))) ∧ ∀ i, i < G.nr → g i = .bool (litB G x y (G.reg i).next) := by
  have hG0 := hG
  obtain ⟨f0, f1, f2, f3, f4, rfl, g0, g1, g2, g3, g4⟩ := hG
  have b1 := gd.ni; have b2 := gd.nr; have b3 := gd.na; have b4 := gd.no; have b5 := gd.nk
  refine Fn.pure fmix f18 ?_
  unfold a18 r18
  simp -implicitDefEqProofs only [vqa, Nat.reduceEqDiff, Nat.reduceAdd, reduceIte, Nat.reduceLeDiff, Nat.reduceBEq, Nat.reduceLT, Nat.reduceSub, Int.reduceLT, Int.reduceLE, Int.reduceEq, Int.reduceToNat, Nat.reduceMul, eq_self, implies_true, forall_const]
  refine (p51 hG0 gd x y fx fy hx hy 1000 _).mono fun r m ⟨v, dv, s, hr, hS, hI, hK⟩ => ?_
  subst hr
  have hm3 := hK 3 (by omega)
  simp only [set_same] at hm3
  simp -implicitDefEqProofs only [vqa, Nat.reduceEqDiff, Nat.reduceAdd, reduceIte, Nat.reduceLeDiff, Nat.reduceBEq, Nat.reduceLT, Nat.reduceSub, Int.reduceLT, Int.reduceLE, Int.reduceEq, Int.reduceToNat, Nat.reduceMul, eq_self, implies_true, forall_const, hm3]
  generalize (mem0 3).ver + 1 = V3 at *
  refine vFor G.nk (fun i e m => e 3 = .ptr 3 V3 0 ∧ m 3 = .var V3 [.fs G.ni f0, .fs G.no f1, .fs G.nr f2, .fs G.na f3, .fs G.nk f4] ∧ e 7 = .cap0 ∧ e 8 = .ptr 1025 v 0 ∧ e 18 = .fs G.nk f4 ∧ e 19 = .int .i64 G.nk ∧ e 20 = .int .i64 i ∧ Acc 29 4 1 i (fun k a => a = .bool (litB G x y (G.outs k))) (e 6) m ∧ ∃ s, ShA m 1025 v 1023 dv [.fs G.ni f0, .fs G.no f1, .fs G.nr f2, .fs G.na f3, .fs G.nk f4] G.nodes s ∧ ShK G x y s) ?_ ?_ ?_
  · simp -implicitDefEqProofs only [vqa, Nat.reduceEqDiff, Nat.reduceAdd, reduceIte, Nat.reduceLeDiff, Nat.reduceBEq, Nat.reduceLT, Nat.reduceSub, Int.reduceLT, Int.reduceLE, Int.reduceEq, Int.reduceToNat, Nat.reduceMul, eq_self, implies_true, forall_const]
    exact ⟨hm3, .none, s, hS, hI⟩
  · rintro i e m hi hi' ⟨h3, hm3, h7, h8, h18, h19, h20, hA, s, hS, hI⟩
    unfold a18_0
    simp -implicitDefEqProofs only [vqa, Nat.reduceEqDiff, Nat.reduceAdd, reduceIte, Nat.reduceLeDiff, Nat.reduceBEq, Nat.reduceLT, Nat.reduceSub, Int.reduceLT, Int.reduceLE, Int.reduceEq, Int.reduceToNat, Nat.reduceMul, eq_self, implies_true, forall_const, h3, hm3, h7, h8, h18, h19, h20, hi', g4 i hi]
    refine ⟨by omega, ?_⟩
    refine (p52k hG0 gd x y 2000 (gd.outs i hi) hS hI (by omega) (by omega)).mono fun r m1 ⟨hr, ⟨s1, hS1, hI1⟩, hK1⟩ => ?_
    subst hr
    have hA1 := hA.keep (hK1 29 (by omega) (by omega))
    have hm3' := (hK1 3 (by omega) (by omega)).trans hm3
    rcases hA1 with ⟨hz, h6⟩ | ⟨ver, gg, h6, hm6, hgg⟩
    · simp -implicitDefEqProofs only [vqa, Nat.reduceEqDiff, Nat.reduceAdd, reduceIte, Nat.reduceLeDiff, Nat.reduceBEq, Nat.reduceLT, Nat.reduceSub, Int.reduceLT, Int.reduceLE, Int.reduceEq, Int.reduceToNat, Nat.reduceMul, eq_self, implies_true, forall_const, h3, hm3', h7, h8, h18, h19, h20, h6]
      subst hz
      exact ⟨hi, wI (by omega) (by omega), .first (p := fun k a => a = .bool (litB G x y (G.outs k))) rfl, s1, hS1.congr (by simp only [set_at]; rfl) (by simp only [set_at]; rfl), hI1⟩
    · simp -implicitDefEqProofs only [vqa, Nat.reduceEqDiff, Nat.reduceAdd, reduceIte, Nat.reduceLeDiff, Nat.reduceBEq, Nat.reduceLT, Nat.reduceSub, Int.reduceLT, Int.reduceLE, Int.reduceEq, Int.reduceToNat, Nat.reduceMul, eq_self, implies_true, forall_const, h3, hm3', h7, h8, h18, h19, h20, h6, hm6]
      exact ⟨⟨by omega, by omega⟩, hi, wI (by omega) (by omega), .push (p := fun k a => a = .bool (litB G x y (G.outs k))) hgg rfl, s1, hS1.congr (by simp only [set_at]; rfl) (by simp only [set_at]; rfl), hI1⟩
  · rintro e m ⟨h3, hm3, h7, h8, h18, h19, h20, hA, s, hS, hI⟩
    unfold a18_0
    simp -implicitDefEqProofs only [vqa, Nat.reduceEqDiff, Nat.reduceAdd, reduceIte, Nat.reduceLeDiff, Nat.reduceBEq, Nat.reduceLT, Nat.reduceSub, Int.reduceLT, Int.reduceLE, Int.reduceEq, Int.reduceToNat, Nat.reduceMul, eq_self, implies_true, forall_const, h3, hm3, h7, h8, h18, h19, h20]
    refine vFor G.nr (fun i e m => e 8 = .ptr 1025 v 0 ∧ e 32 = .fs G.nr f2 ∧ e 33 = .int .i64 G.nr ∧ e 34 = .int .i64 i ∧ Acc 29 4 1 G.nk (fun k a => a = .bool (litB G x y (G.outs k))) (e 6) m ∧ Acc 44 4 1 i (fun k a => a = .bool (litB G x y (G.reg k).next)) (e 7) m ∧ ∃ s, ShA m 1025 v 1023 dv [.fs G.ni f0, .fs G.no f1, .fs G.nr f2, .fs G.na f3, .fs G.nk f4] G.nodes s ∧ ShK G x y s) ?_ ?_ ?_
    · simp -implicitDefEqProofs only [vqa, Nat.reduceEqDiff, Nat.reduceAdd, reduceIte, Nat.reduceLeDiff, Nat.reduceBEq, Nat.reduceLT, Nat.reduceSub, Int.reduceLT, Int.reduceLE, Int.reduceEq, Int.reduceToNat, Nat.reduceMul, eq_self, implies_true, forall_const, h7, h8]
      exact ⟨hA, .none, s, hS, hI⟩
    · rintro i e m hi hi' ⟨h8, h32, h33, h34, hA, hB, s, hS, hI⟩
      unfold a18_1
      simp -implicitDefEqProofs only [vqa, Nat.reduceEqDiff, Nat.reduceAdd, reduceIte, Nat.reduceLeDiff, Nat.reduceBEq, Nat.reduceLT, Nat.reduceSub, Int.reduceLT, Int.reduceLE, Int.reduceEq, Int.reduceToNat, Nat.reduceMul, eq_self, implies_true, forall_const, h8, h32, h33, h34, hi', g2 i hi, RegV.av]
      refine ⟨by omega, ?_⟩
      have hS' : ShA (Mem.set 12 (.var ((m 12).ver + 1) [.str (G.reg i).name, .int .i64 (G.reg i).next, .bool (G.reg i).init]) (Mem.set 12 (.var ((m 12).ver + 1) [.str ⟨#[]⟩, .int .i64 0, .bool false]) m)) 1025 v 1023 dv [.fs G.ni f0, .fs G.no f1, .fs G.nr f2, .fs G.na f3, .fs G.nk f4] G.nodes s := hS.congr (by simp only [set_at]; rfl) (by simp only [set_at]; rfl)
      refine (p52k hG0 gd x y 2000 (gd.next i hi) hS' hI (by omega) (by omega)).mono fun r m1 ⟨hr, ⟨s1, hS1, hI1⟩, hK1⟩ => ?_
      subst hr
      have hA1 : Acc 29 4 1 G.nk (fun k a => a = .bool (litB G x y (G.outs k))) (e 6) m1 := hA.keep ((hK1 29 (by omega) (by omega)).trans (by simp only [set_at]; rfl))
      have hB1 : Acc 44 4 1 i (fun k a => a = .bool (litB G x y (G.reg k).next)) (e 7) m1 := hB.keep ((hK1 44 (by omega) (by omega)).trans (by simp only [set_at]; rfl))
      rcases hB1 with ⟨hz, h7⟩ | ⟨ver, gg, h7, hm7, hgg⟩
      · simp -implicitDefEqProofs only [vqa, Nat.reduceEqDiff, Nat.reduceAdd, reduceIte, Nat.reduceLeDiff, Nat.reduceBEq, Nat.reduceLT, Nat.reduceSub, Int.reduceLT, Int.reduceLE, Int.reduceEq, Int.reduceToNat, Nat.reduceMul, eq_self, implies_true, forall_const, h8, h32, h33, h34, h7]
        subst hz
        exact ⟨hi, wI (by omega) (by omega), hA1.keep (by simp only [set_at]; rfl), .first (p := fun k a => a = .bool (litB G x y (G.reg k).next)) rfl, s1, hS1.congr (by simp only [set_at]; rfl) (by simp only [set_at]; rfl), hI1⟩
      · simp -implicitDefEqProofs only [vqa, Nat.reduceEqDiff, Nat.reduceAdd, reduceIte, Nat.reduceLeDiff, Nat.reduceBEq, Nat.reduceLT, Nat.reduceSub, Int.reduceLT, Int.reduceLE, Int.reduceEq, Int.reduceToNat, Nat.reduceMul, eq_self, implies_true, forall_const, h8, h32, h33, h34, h7, hm7]
        exact ⟨⟨by omega, by omega⟩, hi, wI (by omega) (by omega), hA1.keep (by simp only [set_at]; rfl), .push (p := fun k a => a = .bool (litB G x y (G.reg k).next)) hgg rfl, s1, hS1.congr (by simp only [set_at]; rfl) (by simp only [set_at]; rfl), hI1⟩
    · rintro e m ⟨h8, h32, h33, h34, hA, hB, _⟩
      unfold a18_1
      rcases hA with ⟨hz, h4⟩ | ⟨ver, gg, h4, hm4, hgg⟩ <;> rcases hB with ⟨hz2, h5⟩ | ⟨ver2, gg2, h5, hm5, hgg2⟩
      · simp -implicitDefEqProofs only [vqa, Nat.reduceEqDiff, Nat.reduceAdd, reduceIte, Nat.reduceLeDiff, Nat.reduceBEq, Nat.reduceLT, Nat.reduceSub, Int.reduceLT, Int.reduceLE, Int.reduceEq, Int.reduceToNat, Nat.reduceMul, eq_self, implies_true, forall_const, h8, h32, h33, h34, h4, h5]
        exact ⟨_, _, by rw [hz, hz2], fun i hi => absurd hi (by omega), fun i hi => absurd hi (by omega)⟩
      · simp -implicitDefEqProofs only [vqa, Nat.reduceEqDiff, Nat.reduceAdd, reduceIte, Nat.reduceLeDiff, Nat.reduceBEq, Nat.reduceLT, Nat.reduceSub, Int.reduceLT, Int.reduceLE, Int.reduceEq, Int.reduceToNat, Nat.reduceMul, eq_self, implies_true, forall_const, h8, h32, h33, h34, h4, h5, hm5]
        exact ⟨_, _, by rw [hz], fun i hi => absurd hi (by omega), hgg2⟩
      · simp -implicitDefEqProofs only [vqa, Nat.reduceEqDiff, Nat.reduceAdd, reduceIte, Nat.reduceLeDiff, Nat.reduceBEq, Nat.reduceLT, Nat.reduceSub, Int.reduceLT, Int.reduceLE, Int.reduceEq, Int.reduceToNat, Nat.reduceMul, eq_self, implies_true, forall_const, h8, h32, h33, h34, h4, hm4, h5]
        exact ⟨_, _, by rw [hz2], hgg, fun i hi => absurd hi (by omega)⟩
      · simp -implicitDefEqProofs only [vqa, Nat.reduceEqDiff, Nat.reduceAdd, reduceIte, Nat.reduceLeDiff, Nat.reduceBEq, Nat.reduceLT, Nat.reduceSub, Int.reduceLT, Int.reduceLE, Int.reduceEq, Int.reduceToNat, Nat.reduceMul, eq_self, implies_true, forall_const, h8, h32, h33, h34, h4, hm4, h5, hm5]
        exact ⟨_, _, rfl, hgg, hgg2⟩
end Go.Ab
