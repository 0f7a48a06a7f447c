/- Walk: netlist.With. -/
import Derived.Test.YtodncnlnadgkhacSaPlain
import Derived.Test.YtodncnlnadgkhacSaGraph
import Derived.Test.YtodncnlnadgkhacSaGFau0
import Derived.Test.YtodncnlnadgkhacSaOr
import Derived.Test.YtodncnlnadgkhacFwR
import Derived.Test.YtodncnlnadgkhacSaFault
import Derived.Test.YtodncnlnadgkhacSaSame
set_option linter.unusedSimpArgs false
set_option linter.unusedVariables false
namespace Go.Ab
open Go
def a64_0 : AC := (.seq (.ops [⟨(some 50), none, (.v (.bin .lss (.t 49) (.t 48)))⟩]) (.seq (.cond (.t 50) .skip (.exit 0)) (.seq (.block 1 (.seq (.ops [⟨(some 51), none, (.v (.idx 1 (.t 47) (.t 49)))⟩, ⟨(some 52), none, (.v (.load 1 false (.t 51)))⟩, ⟨(some 10), none, (.v (.mv (.t 52)))⟩]) (.seq (.ops [⟨(some 53), none, (.v (.mv (.t 10)))⟩, ⟨(some 54), none, (.v (.bin .lss (.t 53) (.c (.int .i64 0))))⟩, ⟨(some 55), none, (.v (.mv (.t 54)))⟩, ⟨(some 56), (some (55, false)), (.v (.mv (.t 10)))⟩, ⟨(some 57), (some (55, false)), (.v (.bin .quo (.t 56) (.c (.int .i64 2))))⟩, ⟨(some 58), (some (55, false)), (.v (.load 5 true (.t 3)))⟩, ⟨(some 59), (some (55, false)), (.call (.c (.fn 88 [])) [(.t 58)])⟩, ⟨(some 60), (some (55, false)), (.v (.bin .geq (.t 57) (.t 59)))⟩, ⟨(some 61), none, (.v (.pick (.t 55) (.c (.bool true)) (.t 60)))⟩]) (.cond (.t 61) (.seq (.ops [⟨(some 62), none, (.v (.build [.cap0, .cap0, .cap0, .cap0, .cap0] []))⟩, ⟨none, none, (.e (.store 5 (.t 6) (.t 62)))⟩, ⟨(some 7), none, (.v (.mv (.c (.int .i64 2))))⟩]) .ret) .skip)))) (.ops [⟨(some 63), none, (.v (.bin .add (.t 49) (.c (.int .i64 1))))⟩, ⟨(some 49), none, (.v (.mv (.t 63)))⟩]))))
def a64_1 : AC := (.seq (.ops [⟨(some 75), none, (.v (.bin .lss (.t 74) (.t 73)))⟩]) (.seq (.cond (.t 75) .skip (.exit 2)) (.seq (.block 3 (.seq (.ops [⟨(some 76), none, (.v (.idx 3 (.t 72) (.t 74)))⟩, ⟨(some 77), none, (.v (.load 3 true (.t 76)))⟩, ⟨(some 13), none, (.e (.alloc 13 [(.str ⟨#[]⟩), (.int .i64 0), (.bool false)]))⟩, ⟨none, none, (.e (.store 3 (.t 13) (.t 77)))⟩]) (.ops [⟨(some 78), none, (.v (.fld 2 (.t 11)))⟩, ⟨(some 79), none, (.v (.load 1 false (.t 78)))⟩, ⟨(some 80), none, (.v (.fld 0 (.t 13)))⟩, ⟨(some 81), none, (.v (.load 1 false (.t 80)))⟩, ⟨(some 82), none, (.v (.fld 2 (.t 13)))⟩, ⟨(some 83), none, (.v (.load 1 false (.t 82)))⟩, ⟨(some 84), none, (.v (.build [(.str ⟨#[]⟩), (.int .i64 0), (.int .i64 0), (.int .i64 0), (.bool false)] [(0, (1, (.t 81))), (1, (1, (.c (.int .i64 (-1))))), (4, (1, (.t 83)))]))⟩, ⟨(some 85), none, (.e (.lit 85 129 5 1 [(.str ⟨#[]⟩), (.int .i64 0), (.int .i64 0), (.int .i64 0), (.bool false)] [(0, (.t 84))]))⟩, ⟨(some 86), none, (.e (.app 86 129 5 48 (.t 79) (.t 85)))⟩, ⟨(some 87), none, (.v (.fld 2 (.t 11)))⟩, ⟨none, none, (.e (.store 1 (.t 87) (.t 86)))⟩]))) (.ops [⟨(some 88), none, (.v (.bin .add (.t 74) (.c (.int .i64 1))))⟩, ⟨(some 74), none, (.v (.mv (.t 88)))⟩]))))
def a64_2 : AC := (.seq (.ops [⟨(some 93), none, (.v (.bin .lss (.t 92) (.t 91)))⟩]) (.seq (.cond (.t 93) .skip (.exit 4)) (.seq (.block 5 (.seq (.ops [⟨(some 94), none, (.v (.idx 2 (.t 90) (.t 92)))⟩, ⟨(some 95), none, (.v (.load 2 true (.t 94)))⟩, ⟨(some 15), none, (.e (.alloc 15 [(.int .i64 0), (.int .i64 0)]))⟩, ⟨none, none, (.e (.store 2 (.t 15) (.t 95)))⟩]) (.seq (.ops [⟨(some 96), none, (.v (.fld 0 (.t 15)))⟩, ⟨(some 97), none, (.v (.load 1 false (.t 96)))⟩, ⟨(some 98), none, (.v (.bin .rem (.t 97) (.c (.int .i64 2))))⟩, ⟨(some 99), none, (.v (.fld 1 (.t 15)))⟩, ⟨(some 100), none, (.v (.load 1 false (.t 99)))⟩, ⟨(some 101), none, (.v (.bin .rem (.t 100) (.c (.int .i64 2))))⟩, ⟨(some 102), none, (.v (.bin .shl (.t 101) (.c (.int .u64 1))))⟩, ⟨(some 103), none, (.v (.bin .or (.t 98) (.t 102)))⟩, ⟨(some 104), none, (.v (.bin .andNot (.c (.int .i64 3)) (.t 103)))⟩, ⟨(some 16), none, (.v (.mv (.t 104)))⟩]) (.any [⟨(some 105), none, (.v (.fld 3 (.t 11)))⟩, ⟨(some 106), none, (.v (.load 1 false (.t 105)))⟩, ⟨(some 107), none, (.v (.mv (.t 16)))⟩, ⟨(some 108), none, (.v (.bin .shl (.c (.int .u64 1)) (.t 107)))⟩, ⟨(some 109), none, (.v (.fld 0 (.t 15)))⟩, ⟨(some 110), none, (.v (.load 1 false (.t 109)))⟩, ⟨(some 111), none, (.call (.c (.fn 89 [])) [(.t 110)])⟩, ⟨(some 112), none, (.v (.fld 1 (.t 15)))⟩, ⟨(some 113), none, (.v (.load 1 false (.t 112)))⟩, ⟨(some 114), none, (.call (.c (.fn 89 [])) [(.t 113)])⟩, ⟨(some 115), none, (.e (.lit 115 3 1 2 [(.int .i64 0)] [(0, (.t 111)), (1, (.t 114))]))⟩, ⟨(some 116), none, (.v (.build [(.int .i64 0), (.int .u64 0), .cap0] [(0, (1, (.c (.int .i64 (-1))))), (1, (1, (.t 108))), (2, (1, (.t 115)))]))⟩, ⟨(some 117), none, (.e (.lit 117 127 3 1 [(.int .i64 0), (.int .u64 0), .cap0] [(0, (.t 116))]))⟩, ⟨(some 118), none, (.e (.app 118 127 3 40 (.t 106) (.t 117)))⟩, ⟨(some 119), none, (.v (.fld 3 (.t 11)))⟩, ⟨none, none, (.e (.store 1 (.t 119) (.t 118)))⟩] [[], [0], [], [2], [], [4], [5], [], [7], [8, 6], [6, 9], [3, 10], [11], [1, 12, 9], [0, 1, 2, 3, 4, 5, 6, 7, 8, 9, 10, 11, 12, 13], [14, 13, 13, 0, 1, 2, 3, 4, 5, 6, 7, 8, 9, 10, 11, 12, 13]])))) (.ops [⟨(some 120), none, (.v (.bin .add (.t 92) (.c (.int .i64 1))))⟩, ⟨(some 92), none, (.v (.mv (.t 120)))⟩]))))
def a64_3 : AC := (.seq (.ops [⟨(some 128), none, (.v (.bin .lss (.t 127) (.t 126)))⟩]) (.seq (.cond (.t 128) .skip (.exit 6)) (.seq (.block 7 (.seq (.ops [⟨(some 129), none, (.v (.idx 1 (.t 125) (.t 127)))⟩, ⟨(some 130), none, (.v (.load 1 false (.t 129)))⟩, ⟨(some 20), none, (.v (.mv (.t 130)))⟩]) (.any [⟨(some 131), none, (.v (.fld 4 (.t 11)))⟩, ⟨(some 132), none, (.v (.load 1 false (.t 131)))⟩, ⟨(some 133), none, (.v (.mv (.t 18)))⟩, ⟨(some 134), none, (.v (.mv (.t 20)))⟩, ⟨(some 135), none, (.call (.t 133) [(.t 134)])⟩, ⟨(some 136), none, (.e (.lit 136 3 1 1 [(.int .i64 0)] [(0, (.t 135))]))⟩, ⟨(some 137), none, (.e (.app 137 3 1 8 (.t 132) (.t 136)))⟩, ⟨(some 138), none, (.v (.fld 4 (.t 11)))⟩, ⟨none, none, (.e (.store 1 (.t 138) (.t 137)))⟩] [[], [0], [], [], [2, 3], [4], [1, 5, 4], [0, 1, 2, 3, 4, 5, 6], [7, 6, 6, 0, 1, 2, 3, 4, 5, 6]]))) (.ops [⟨(some 139), none, (.v (.bin .add (.t 127) (.c (.int .i64 1))))⟩, ⟨(some 127), none, (.v (.mv (.t 139)))⟩]))))
def a64_4 : AC := (.seq (.ops [⟨(some 144), none, (.v (.bin .lss (.t 143) (.t 142)))⟩]) (.seq (.cond (.t 144) .skip (.exit 8)) (.seq (.block 9 (.seq (.ops [⟨(some 145), none, (.v (.mv (.t 143)))⟩, ⟨(some 21), none, (.v (.mv (.t 145)))⟩]) (.seq (.any [⟨(some 146), none, (.v (.fld 2 (.t 11)))⟩, ⟨(some 147), none, (.v (.load 1 false (.t 146)))⟩, ⟨(some 148), none, (.v (.mv (.t 21)))⟩, ⟨(some 149), none, (.v (.mv (.t 18)))⟩, ⟨(some 150), none, (.v (.mv (.t 1)))⟩, ⟨(some 151), none, (.v (.mv (.t 21)))⟩, ⟨(some 152), none, (.v (.idx 1 (.t 150) (.t 151)))⟩, ⟨(some 153), none, (.v (.load 1 false (.t 152)))⟩, ⟨(some 154), none, (.call (.t 149) [(.t 153)])⟩, ⟨(some 155), none, (.v (.idx 5 (.t 147) (.t 148)))⟩, ⟨(some 156), none, (.v (.fld 2 (.t 155)))⟩, ⟨none, none, (.e (.store 1 (.t 156) (.t 154)))⟩] [[], [0], [], [], [], [], [4, 5], [6], [3, 7], [1, 2, 0, 1, 2, 3, 4, 5, 6, 7, 8], [9, 0, 1, 2, 3, 4, 5, 6, 7, 8], [10, 8, 8, 0, 1, 2, 3, 4, 5, 6, 7, 8]]) (.any [⟨(some 157), none, (.v (.fld 2 (.t 11)))⟩, ⟨(some 158), none, (.v (.load 1 false (.t 157)))⟩, ⟨(some 159), none, (.v (.mv (.t 21)))⟩, ⟨(some 160), none, (.v (.mv (.t 18)))⟩, ⟨(some 161), none, (.v (.mv (.t 2)))⟩, ⟨(some 162), none, (.v (.mv (.t 21)))⟩, ⟨(some 163), none, (.v (.idx 1 (.t 161) (.t 162)))⟩, ⟨(some 164), none, (.v (.load 1 false (.t 163)))⟩, ⟨(some 165), none, (.call (.t 160) [(.t 164)])⟩, ⟨(some 166), none, (.v (.idx 5 (.t 158) (.t 159)))⟩, ⟨(some 167), none, (.v (.fld 3 (.t 166)))⟩, ⟨none, none, (.e (.store 1 (.t 167) (.t 165)))⟩] [[], [0], [], [], [], [], [4, 5], [6], [3, 7], [1, 2, 0, 1, 2, 3, 4, 5, 6, 7, 8], [9, 0, 1, 2, 3, 4, 5, 6, 7, 8], [10, 8, 8, 0, 1, 2, 3, 4, 5, 6, 7, 8]])))) (.ops [⟨(some 168), none, (.v (.bin .add (.t 143) (.c (.int .i64 1))))⟩, ⟨(some 143), none, (.v (.mv (.t 168)))⟩]))))
def a64 : AC := (.seq (.ops [⟨(some 3), none, (.e (.box 3 0 (.t 0)))⟩, ⟨(some 6), none, (.e (.alloc 6 [.cap0, .cap0, .cap0, .cap0, .cap0]))⟩, ⟨(some 7), none, (.v (.mv (.c (.int .i64 0))))⟩]) (.seq (.seq (.ops [⟨(some 23), none, (.v (.load 5 true (.t 3)))⟩, ⟨(some 24), none, (.call (.c (.fn 42 [])) [(.t 23)])⟩, ⟨(some 8), none, (.v (.mv (.t 24)))⟩]) (.seq (.ops [⟨(some 25), none, (.v (.mv (.t 8)))⟩, ⟨(some 26), none, (.v (.bin .neq (.t 25) (.c (.int .i64 0))))⟩]) (.cond (.t 26) (.seq (.ops [⟨(some 27), none, (.v (.build [.cap0, .cap0, .cap0, .cap0, .cap0] []))⟩, ⟨(some 28), none, (.v (.mv (.t 8)))⟩, ⟨none, none, (.e (.store 5 (.t 6) (.t 27)))⟩, ⟨(some 7), none, (.v (.mv (.t 28)))⟩]) .ret) .skip))) (.seq (.seq (.ops [⟨(some 29), none, (.v (.mv (.t 1)))⟩, ⟨(some 30), none, (.v (.len (.t 29)))⟩, ⟨(some 31), none, (.v (.fld 2 (.t 3)))⟩, ⟨(some 32), none, (.v (.load 1 false (.t 31)))⟩, ⟨(some 33), none, (.v (.len (.t 32)))⟩, ⟨(some 34), none, (.v (.bin .neq (.t 30) (.t 33)))⟩, ⟨(some 35), none, (.v (.mv (.t 34)))⟩, ⟨(some 36), (some (35, false)), (.v (.mv (.t 2)))⟩, ⟨(some 37), (some (35, false)), (.v (.len (.t 36)))⟩, ⟨(some 38), (some (35, false)), (.v (.fld 2 (.t 3)))⟩, ⟨(some 39), (some (35, false)), (.v (.load 1 false (.t 38)))⟩, ⟨(some 40), (some (35, false)), (.v (.len (.t 39)))⟩, ⟨(some 41), (some (35, false)), (.v (.bin .neq (.t 37) (.t 40)))⟩, ⟨(some 42), none, (.v (.pick (.t 35) (.c (.bool true)) (.t 41)))⟩]) (.cond (.t 42) (.seq (.ops [⟨(some 43), none, (.v (.build [.cap0, .cap0, .cap0, .cap0, .cap0] []))⟩, ⟨none, none, (.e (.store 5 (.t 6) (.t 43)))⟩, ⟨(some 7), none, (.v (.mv (.c (.int .i64 4))))⟩]) .ret) .skip)) (.seq (.seq (.ops [⟨(some 44), none, (.v (.mv (.t 1)))⟩, ⟨(some 45), none, (.v (.mv (.t 2)))⟩, ⟨(some 46), none, (.e (.lit 46 32 1 2 [.cap0] [(0, (.t 44)), (1, (.t 45))]))⟩, ⟨(some 47), none, (.call (.c (.fn 87 [])) [(.t 46)])⟩, ⟨(some 48), none, (.v (.len (.t 47)))⟩, ⟨(some 49), none, (.v (.mv (.c (.int .i64 0))))⟩]) (.block 0 (.loop a64_0))) (.seq (.any [⟨(some 64), none, (.v (.fld 0 (.t 3)))⟩, ⟨(some 65), none, (.v (.load 1 false (.t 64)))⟩, ⟨(some 66), none, (.call (.c (.fn 40 [])) [(.t 65)])⟩, ⟨(some 67), none, (.v (.fld 1 (.t 3)))⟩, ⟨(some 68), none, (.v (.load 1 false (.t 67)))⟩, ⟨(some 69), none, (.call (.c (.fn 40 [])) [(.t 68)])⟩, ⟨(some 70), none, (.v (.build [.cap0, .cap0, .cap0, .cap0, .cap0] [(0, (1, (.t 66))), (1, (1, (.t 69)))]))⟩, ⟨(some 11), none, (.e (.alloc 11 [.cap0, .cap0, .cap0, .cap0, .cap0]))⟩, ⟨none, none, (.e (.store 5 (.t 11) (.t 70)))⟩] [[], [0], [1], [], [3], [4, 2], [2, 5], [], [7, 6, 5, 0, 1, 2, 3, 4, 5, 6, 7]]) (.seq (.seq (.ops [⟨(some 71), none, (.v (.fld 2 (.t 3)))⟩, ⟨(some 72), none, (.v (.load 1 false (.t 71)))⟩, ⟨(some 73), none, (.v (.len (.t 72)))⟩, ⟨(some 74), none, (.v (.mv (.c (.int .i64 0))))⟩]) (.block 2 (.loop a64_1))) (.seq (.seq (.ops [⟨(some 89), none, (.v (.fld 3 (.t 3)))⟩, ⟨(some 90), none, (.v (.load 1 false (.t 89)))⟩, ⟨(some 91), none, (.v (.len (.t 90)))⟩, ⟨(some 92), none, (.v (.mv (.c (.int .i64 0))))⟩]) (.block 4 (.loop a64_2))) (.seq (.ops [⟨(some 121), none, (.e (.mkmap 121 (.int .i64) (some .i64)))⟩, ⟨none, none, (.e (.mapup (.int .i64) (some .i64) (.t 121) (.c (.int .i64 0)) (.c (.int .i64 0))))⟩, ⟨none, none, (.e (.mapup (.int .i64) (some .i64) (.t 121) (.c (.int .i64 1)) (.c (.int .i64 1))))⟩, ⟨(some 122), none, (.v (.mv (.t 121)))⟩, ⟨(some 17), none, (.e (.alloc 17 [.undef]))⟩, ⟨none, none, (.e (.store 1 (.t 17) (.t 122)))⟩]) (.seq (.ops [⟨(some 123), none, (.v (.mkfn 90 [(.t 17), (.t 11)]))⟩, ⟨(some 18), none, (.v (.mv (.t 123)))⟩]) (.seq (.seq (.ops [⟨(some 124), none, (.v (.fld 4 (.t 3)))⟩, ⟨(some 125), none, (.v (.load 1 false (.t 124)))⟩, ⟨(some 126), none, (.v (.len (.t 125)))⟩, ⟨(some 127), none, (.v (.mv (.c (.int .i64 0))))⟩]) (.block 6 (.loop a64_3))) (.seq (.seq (.ops [⟨(some 140), none, (.v (.fld 2 (.t 11)))⟩, ⟨(some 141), none, (.v (.load 1 false (.t 140)))⟩, ⟨(some 142), none, (.v (.len (.t 141)))⟩, ⟨(some 143), none, (.v (.mv (.c (.int .i64 0))))⟩]) (.block 8 (.loop a64_4))) (.seq (.seq (.ops [⟨(some 169), none, (.v (.load 5 true (.t 11)))⟩, ⟨(some 170), none, (.call (.c (.fn 92 [])) [(.t 169)])⟩, ⟨(some 22), none, (.v (.mv (.t 170)))⟩]) (.seq (.ops [⟨(some 171), none, (.v (.mv (.t 22)))⟩, ⟨(some 172), none, (.v (.bin .neq (.t 171) (.c (.int .i64 0))))⟩]) (.cond (.t 172) (.seq (.ops [⟨(some 173), none, (.v (.build [.cap0, .cap0, .cap0, .cap0, .cap0] []))⟩, ⟨(some 174), none, (.v (.mv (.t 22)))⟩, ⟨none, none, (.e (.store 5 (.t 6) (.t 173)))⟩, ⟨(some 7), none, (.v (.mv (.t 174)))⟩]) .ret) .skip))) (.seq (.ops [⟨(some 175), none, (.v (.load 5 true (.t 11)))⟩, ⟨none, none, (.e (.store 5 (.t 6) (.t 175)))⟩, ⟨(some 7), none, (.v (.mv (.c (.int .i64 0))))⟩]) .ret)))))))))))))
def r64 : List AI := [(.load 5 true (.t 6)), (.mv (.t 7))]
theorem f64 : Fn PP 64 3 a64 r64 := Fn.of (fn := Go.Proofs.Try.f64) (by kernel_rfl) (by kernel_rfl) (by kernel_rfl)

/-- The error of With. -/
def lenW (G : Gra) (n1 n2 : Nat) (d en : Nat → Int) : Int := if n1 ≠ G.nr ∨ n2 ≠ G.nr then 4 else scan (fun i => badLit G.nodes (if i < G.nr then d i else en (i - G.nr))) (2 * G.nr)
noncomputable def withF (G : Gra) (n1 n2 : Nat) (d en : Nat → Int) : Int := if graphF G ≠ 0 then graphF G else if lenW G n1 n2 d en ≠ 0 then lenW G n1 n2 d en else formF (withN G d en)

def sh (G : Gra) : Nat := if G.na = 0 then 1035 else 118
/-- How things stand behind k questions. -/
def WiS (G : Gra) (d en : Nat → Int) (k V11 V17 VM : Nat) (x0 x1 x2 x4 : AV) (m : Mem) : Prop := ∃ p g x3, m 17 = .var V17 [.mp 121 VM] ∧ m 121 = .map VM (.int .i64) (some .i64) p g ∧ MapInv G.nb (tW G d en k) p g ∧ m 11 = .var V11 [x0, x1, x2, x3, x4] ∧ AccP [sh G] 127 3 (G.na + (tW G d en k).length) (gateP G (tW G d en k)) x3 m
theorem WiS.keep {G : Gra} {d en : Nat → Int} {k V11 V17 VM : Nat} {x0 x1 x2 x4 : AV} {m m' : Mem} (h : WiS G d en k V11 V17 VM x0 x1 x2 x4 m) (hk : ∀ i, i = 11 ∨ i = 17 ∨ i = 121 ∨ i = 118 ∨ i = 1035 → m' i = m i) : WiS G d en k V11 V17 VM x0 x1 x2 x4 m' := by
  obtain ⟨p, g, x3, q17, qM, hM, q11, qA⟩ := h
  have hsg : sh G = 1035 ∨ sh G = 118 := by unfold sh; split <;> simp
  refine ⟨p, g, x3, by rw [hk 17 (by simp)]; exact q17, by rw [hk 121 (by simp)]; exact qM, hM, by rw [hk 11 (by simp)]; exact q11, qA.keep fun i h => ?_⟩
  obtain rfl : i = sh G := by simpa using h
  exact hk _ (by omega)
theorem WiS.call {G : Gra} (gd : G.Good) {d en : Nat → Int} {k V11 V17 VM : Nat} {x0 x1 x2 x4 : AV} {m : Mem} (h : WiS G d en k V11 V17 VM x0 x1 x2 x4 m) {f0 f1 f2 f4 : Nat → AV} {no nk : Nat} (r0 : rs0 m x0 = (True, .fs G.ni f0)) (r1 : rs0 m x1 = (True, .fs no f1)) (r2 : rs0 m x2 = (True, .fs G.nr f2)) (r4 : rs0 m x4 = (True, .fs nk f4)) (hk : k < G.nk + 2 * G.nr) (l : Int) (hl : l = qW G d en k) (hq : litOk G.nodes l) :
    CallW PP 90 [.int .i64 l, .ptr 17 V17 0, .ptr 11 V11 0] m fun v m' => v = .int .i64 (getL G.nb (tEnd G d en) l) ∧ WiS G d en (k + 1) V11 V17 VM x0 x1 x2 x4 m' ∧ ∀ i, i < 1000 → i ≠ 121 → i ≠ 11 → i ≠ 118 → m' i = m i := by
  obtain ⟨p, g, x3, m17, mM, hM, m11, hA⟩ := h
  have b1 := gd.ni; have b2 := gd.nr; have b3 := gd.na; have b4 := gd.nk; have b5 := gd.no
  have hbE : G.base = 1 + G.ni + G.nr := rfl
  have hnE : G.nodes = G.base + G.na := rfl
  have hlen := tW_len G d en k
  obtain ⟨l0, l1⟩ := hq
  have e1 : turnS (tW G d en k) l = tW G d en (k + 1) := by rw [hl]; rfl
  have e2 : getL G.nb (turnS (tW G d en k) l) l = getL G.nb (tEnd G d en) l := by rw [e1, hl]; exact getL_end hk
  have h0 : ∀ b, (sh G < b ∧ sh G ≠ 17 ∧ sh G ≠ 11 ∧ sh G ≠ 121 ∧ x3 ≠ .cap0) ∨ (sh G = b + 35 ∧ x3 = .cap0) → 1000 ≤ b → CallW PP 90 [.int .i64 l, .ptr 17 V17 0, .ptr 11 V11 0] m fun v m' => v = .int .i64 (getL G.nb (tEnd G d en) l) ∧ WiS G d en (k + 1) V11 V17 VM x0 x1 x2 x4 m' ∧ ∀ i, i < 1000 → i ≠ 121 → i ≠ 11 → i ≠ 118 → m' i = m i := fun b c1 c3 =>
    (p90 gd (tW_two G d en k) (by omega) l l0 (by omega) b (show 17 < b by omega) (show 11 < b by omega) (show 121 < b by omega) (by decide) (by decide) (by decide) c1 m17 mM m11 r0 r1 r2 r4 hM hA).mono fun v m' ⟨hv, p', g', x3', q1, q2, q3, q4, q5, q6⟩ => by
      rw [e1] at q3 q5
      have hsg : sh G = 1035 ∨ sh G = 118 := by unfold sh; split <;> simp
      exact ⟨by rw [hv, e2], ⟨p', g', x3', q1.trans m17, q2, q3, q4, q5⟩, fun i hi h1 h2 h3 => q6 i (by omega) h1 h2 (by omega)⟩
  have hsg : (G.na = 0 ∧ sh G = 1035) ∨ (0 < G.na ∧ sh G = 118) := by unfold sh; split <;> omega
  obtain ⟨hzz, hx⟩ | ⟨s'', sv, gg, hs'', hx, _, _, hgn⟩ := hA
  · exact h0 1000 (.inr ⟨by omega, hx⟩) (Nat.le_refl _)
  · exact h0 2000 (.inl ⟨by omega, by omega, by omega, by omega, by rw [hx]; exact AV.noConfusion⟩) (by decide)

theorem netL_in {l : Int} (h0 : 0 ≤ l) (h1 : l ≤ 4611686018427387904) : 0 ≤ netL l ∧ netL l ≤ 4611686018427387904 := by
  unfold netL; split <;> omega
theorem getL_in {b : Nat} {T : List Int} {l : Int} (h0 : 0 ≤ l) (h1 : l ≤ 4611686018427387904) (hb : b ≤ 4294967296) (hT : T.length ≤ 4294967296) : I64 (getL b T l) := by
  unfold getL I64
  have := netL_in h0 h1
  have h2 := List.idxOf_le_length (a := l) (l := T)
  split
  · omega
  · split <;> omega
theorem tW_in {G : Gra} (gd : G.Good) {d en : Nat → Int} (kd : ∀ i, i < G.nr → litOk G.nodes (d i)) (ke : ∀ i, i < G.nr → litOk G.nodes (en i)) : ∀ k, k ≤ G.nk + 2 * G.nr → ∀ t, t ∈ tW G d en k → litOk G.nodes t
  | 0, _, t, h => by simp [tW] at h
  | k + 1, hk, t, h => by
    have h' : t ∈ turnS (tW G d en k) (qW G d en k) := h
    have hq : litOk G.nodes (qW G d en k) := by
      unfold qW
      split
      · rename_i hh; exact gd.outs k hh
      · split
        · exact kd _ (by omega)
        · exact ke _ (by omega)
    unfold turnS at h'
    split at h'
    · exact tW_in gd kd ke k (by omega) t h'
    · simp only [List.mem_append, List.mem_singleton] at h'
      rcases h' with h' | rfl
      · exact tW_in gd kd ke k (by omega) t h'
      · exact hq
theorem withN_ok {G : Gra} (gd : G.Good) (ok : G.Ok) {d en : Nat → Int} (kd : ∀ i, i < G.nr → litOk G.nodes (d i)) (ke : ∀ i, i < G.nr → litOk G.nodes (en i)) : (withN G d en).Ok := by
  have b1 := gd.ni; have b2 := gd.nr; have b3 := gd.na; have b4 := gd.nk; have b5 := gd.no
  have hbE : G.base = 1 + G.ni + G.nr := rfl
  have hnE : G.nodes = G.base + G.na := rfl
  have hlen := tW_len G d en (G.nk + 2 * G.nr)
  have hle : (tEnd G d en).length ≤ G.nk + 2 * G.nr := hlen
  have hnb : G.nb ≤ 4294967296 := by unfold Gra.nb; omega
  have lit : ∀ {l}, litOk G.nodes l → 0 ≤ l ∧ l ≤ 4611686018427387904 := fun {l} h => by unfold litOk at h; omega
  have net64 : ∀ {l}, litOk G.nodes l → I64 (netL l) := fun {l} h => by
    have := netL_in (lit h).1 (lit h).2
    unfold I64; omega
  refine ⟨by show G.ni ≤ _; omega, by show G.no ≤ _; omega, by show G.nr ≤ _; omega, by show G.na + (tEnd G d en).length ≤ _; omega, by show G.nk ≤ _; omega, ok.inn, ok.out, fun i hi => ?_, fun i hi => ?_, fun i hi => ?_⟩
  · exact ⟨(ok.reg i hi).1, by show I64 (-1); unfold I64; omega, getL_in (lit (kd i hi)).1 (lit (kd i hi)).2 hnb (by omega), getL_in (lit (ke i hi)).1 (lit (ke i hi)).2 hnb (by omega)⟩
  · have hi' : i < G.na + (tEnd G d en).length := hi
    show (gtW G (tEnd G d en) i).n ≤ _ ∧ _
    show (gtW G (tEnd G d en) i).n ≤ 1048576 ∧ I64 (gtW G (tEnd G d en) i).cell ∧ U64 (gtW G (tEnd G d en) i).table ∧ ∀ k, k < (gtW G (tEnd G d en) i).n → I64 ((gtW G (tEnd G d en) i).ins k)
    unfold gtW
    by_cases hn : i < G.na
    · rw [if_pos hn]
      refine ⟨by show 2 ≤ _; decide, by show I64 (-1); unfold I64; omega, ?_, fun k hk => ?_⟩
      · show U64 (tabW _ _)
        unfold tabW U64
        split <;> split <;> omega
      · have hA := gd.A i hn; have hB := gd.B i hn
        have hA' : litOk G.nodes (G.A i) := by unfold litOk at *; omega
        have hB' : litOk G.nodes (G.B i) := by unfold litOk at *; omega
        show I64 (if k = 0 then netL (G.A i) else netL (G.B i))
        split
        · exact net64 hA'
        · exact net64 hB'
    · rw [if_neg hn]
      refine ⟨by show 1 ≤ _; decide, by show I64 (-1); unfold I64; omega, by show U64 1; unfold U64; omega, fun k hk => ?_⟩
      show I64 (netL ((tEnd G d en).getD (i - G.na) 0))
      refine net64 (tW_in gd kd ke _ (Nat.le_refl _) _ ?_)
      have hlt : i - G.na < (tW G d en (G.nk + 2 * G.nr)).length := by
        have : (tEnd G d en) = tW G d en (G.nk + 2 * G.nr) := rfl
        rw [← this]; omega
      show (tW G d en (G.nk + 2 * G.nr)).getD (i - G.na) 0 ∈ _
      rw [List.getD_eq_getElem?_getD, List.getElem?_eq_getElem hlt]
      exact List.getElem_mem hlt
  · have := lit (gd.outs i hi)
    exact getL_in this.1 this.2 hnb (by omega)
theorem map0 (b : Nat) : MapInv b [] (fun q => bif keyEq q (Value.int IntKind.i64 1) then true else bif keyEq q (Value.int IntKind.i64 0) then true else false) (fun q => bif keyEq q (Value.int IntKind.i64 1) then 1 else bif keyEq q (Value.int IntKind.i64 0) then 0 else 0) := by
  intro l
  by_cases h0 : l = 0
  · subst h0; simp [keyEq_int]
  · by_cases h1 : l = 1
    · subst h1; simp [keyEq_int]
    · simp [keyEq_int, h0, h1]
/-- A flip-flop, when the first i have their nets. -/
def flW (G : Gra) (d en : Nat → Int) (i : Nat) (j : Nat) (a : AV) : Prop := a = (if j < i then ((withN G d en).flop j).av else (⟨(G.reg j).name, -1, 0, 0, (G.reg j).init⟩ : FlopV).av)
theorem p64 {G : Gra} {cs : List AV} (hG : GraC cs G) (ok : G.Ok) (n1 n2 : Nat) (d en : Nat → Int) (fd fe : Nat → AV) (hd : ∀ i, i < n1 → fd i = .int .i64 (d i)) (he : ∀ i, i < n2 → fe i = .int .i64 (en i)) (hn1 : n1 ≤ 1048576) (hn2 : n2 ≤ 1048576) (hLd : ∀ i, i < n1 → L64 (d i)) (hLe : ∀ i, i < n2 → L64 (en i)) :
    Pure PP 64 [.agg cs, .fs n1 fd, .fs n2 fe] fun r => ∃ ds, r = .tup [.agg ds, .int .i64 (withF G n1 n2 d en)] ∧ (withF G n1 n2 d en ≠ 0 → ∃ a0 a1 a2 a3 a4, ds = [.fs 0 a0, .fs 0 a1, .fs 0 a2, .fs 0 a3, .fs 0 a4]) ∧ (withF G n1 n2 d en = 0 → NetC ds (withN G d en)) := by
  have hG0 := hG
  have pC := p42 hG ok
  have pN := p88 hG ok
  obtain ⟨f0, f1, f2, f3, f4, rfl, g0, g1, g2, g3, g4⟩ := hG
  refine Fn.pure fmix f64 ?_
  unfold a64 r64
  simp -implicitDefEqProofs only [vqa, Nat.reduceEqDiff, Nat.reduceAdd, reduceIte, Nat.reduceLeDiff, Nat.reduceBEq, Nat.reduceLT, Nat.reduceSub, Int.reduceLT, Int.reduceLE, Int.reduceEq, Int.reduceToNat, Nat.reduceMul, eq_self, implies_true, forall_const]
  generalize (mem0 3).ver + 1 = V3
  generalize (mem0 6).ver + 1 = V6
  refine CallW.sc pC rfl ⟨⟨trivial, trivial, trivial, trivial, trivial, trivial⟩, trivial⟩ fun r hr => ⟨by subst hr; rfl, ?_⟩
  subst hr
  simp -implicitDefEqProofs only [vqa, Nat.reduceEqDiff, Nat.reduceAdd, reduceIte, Nat.reduceLeDiff, Nat.reduceBEq, Nat.reduceLT, Nat.reduceSub, Int.reduceLT, Int.reduceLE, Int.reduceEq, Int.reduceToNat, Nat.reduceMul, eq_self, implies_true, forall_const]
  have err : ∀ (z0 z1 z2 z3 z4 : Nat → AV) (c : Int), withF G n1 n2 d en = c → c ≠ 0 → ∃ ds, AV.tup [.agg [.fs 0 z0, .fs 0 z1, .fs 0 z2, .fs 0 z3, .fs 0 z4], .int .i64 c] = .tup [.agg ds, .int .i64 (withF G n1 n2 d en)] ∧ (withF G n1 n2 d en ≠ 0 → ∃ a0 a1 a2 a3 a4, ds = [.fs 0 a0, .fs 0 a1, .fs 0 a2, .fs 0 a3, .fs 0 a4]) ∧ (withF G n1 n2 d en = 0 → NetC ds (withN G d en)) := fun z0 z1 z2 z3 z4 c hc h0 => by
    rw [hc]; exact ⟨_, rfl, fun _ => ⟨_, _, _, _, _, rfl⟩, fun e => absurd e h0⟩
  refine ⟨fun h => err _ _ _ _ _ _ (by unfold withF; rw [if_pos h]) h, fun h => ?_⟩
  have hgz : graphF G = 0 := by simpa using h
  have hwF : withF G n1 n2 d en = if lenW G n1 n2 d en ≠ 0 then lenW G n1 n2 d en else formF (withN G d en) := by unfold withF; rw [if_neg h]
  have gd := good_of hgz
  have b1 := gd.ni; have b2 := gd.nr; have b3 := gd.na; have b4 := gd.nk; have b5 := gd.no
  have hbE : G.base = 1 + G.ni + G.nr := rfl
  have hnE : G.nodes = G.base + G.na := rfl
  have e4 : n1 ≠ G.nr ∨ n2 ≠ G.nr → withF G n1 n2 d en = 4 := fun hh => by rw [hwF]; unfold lenW; rw [if_pos hh]; rfl
  refine ⟨fun k1 => ⟨fun k2 => err _ _ _ _ _ _ (e4 (by omega)) (by decide), fun k2 => ?_⟩, fun k1 => err _ _ _ _ _ _ (e4 (by omega)) (by decide)⟩
  obtain rfl : n1 = G.nr := by omega
  obtain rfl : n2 = G.nr := by omega
  clear e4
  have hlW : lenW G G.nr G.nr d en = scan (fun i => badLit G.nodes (if i < G.nr then d i else en (i - G.nr))) (2 * G.nr) := by unfold lenW; rw [if_neg (by simp)]
  refine CallW.frz (by simp -implicitDefEqProofs only [vqa, Nat.reduceEqDiff, Nat.reduceAdd, reduceIte, Nat.reduceLeDiff, Nat.reduceBEq, Nat.reduceLT, Nat.reduceSub, Int.reduceLT, Int.reduceLE, Int.reduceEq, Int.reduceToNat, Nat.reduceMul, eq_self, implies_true, forall_const]; rfl) (by simp only [and_self]) ?_
  have hpre : pre (fun _ => G.nr) 2 = 2 * G.nr := by show 0 + G.nr + G.nr = _; omega
  refine CallW.fz (p87 2 (fun _ => G.nr) (fun i => [fd, fe].getD i fd) (fun i => [AV.fs G.nr fd, .fs G.nr fe].getD i .undef) (fun i hi => by rcases (by omega : i = 0 ∨ i = 1) with rfl | rfl <;> rfl) (fun i hi j hj => by
    rcases (by omega : i = 0 ∨ i = 1) with rfl | rfl
    · show (fd j).cells.length = 1 ∧ (fd j).cells.all AV.isCell = true
      rw [hd j hj]; exact ⟨rfl, rfl⟩
    · show (fe j).cells.length = 1 ∧ (fe j).cells.all AV.isCell = true
      rw [he j hj]; exact ⟨rfl, rfl⟩) (by rw [hpre]; omega) (by decide)) rfl rfl fun r ⟨gc, hr, hgc⟩ => ⟨by subst hr; rfl, ?_⟩
  subst hr
  rw [hpre] at hgc ⊢
  have hx : ∀ i, i < 2 * G.nr → gc i = .int .i64 (if i < G.nr then d i else en (i - G.nr)) := fun i hi => by
    rw [hgc i hi]
    show (if i < 0 + G.nr then (if i < 0 then AV.undef else fd (i - 0)) else fe (i - (0 + G.nr))) = _
    simp only [Nat.zero_add, Nat.not_lt_zero, if_false, Nat.sub_zero]
    split
    · rename_i hh; exact hd i hh
    · exact he _ (by omega)
  simp -implicitDefEqProofs only [vqa, Nat.reduceEqDiff, Nat.reduceAdd, reduceIte, Nat.reduceLeDiff, Nat.reduceBEq, Nat.reduceLT, Nat.reduceSub, Int.reduceLT, Int.reduceLE, Int.reduceEq, Int.reduceToNat, Nat.reduceMul, eq_self, implies_true, forall_const]
  generalize hxs : (fun i => if i < G.nr then d i else en (i - G.nr)) = xs at *
  have hx' : ∀ i, i < 2 * G.nr → gc i = .int .i64 (xs i) := fun i hi => by rw [hx i hi, ← hxs]
  have hlW' : lenW G G.nr G.nr d en = scan (fun i => badLit G.nodes (xs i)) (2 * G.nr) := by rw [hlW, ← hxs]
  refine vFor (2 * G.nr) (fun i e m => e 1 = .fs G.nr fd ∧ e 2 = .fs G.nr fe ∧ e 3 = .ptr 3 V3 0 ∧ m 3 = .var V3 [.fs G.ni f0, .fs G.no f1, .fs G.nr f2, .fs G.na f3, .fs G.nk f4] ∧ e 6 = .ptr 6 V6 0 ∧ m 6 = .var V6 [.cap0, .cap0, .cap0, .cap0, .cap0] ∧ e 47 = .fs (2 * G.nr) gc ∧ e 48 = .int .i64 (2 * G.nr : Nat) ∧ e 49 = .int .i64 i ∧ scan (fun i => badLit G.nodes (xs i)) i = 0) ?_ ?_ ?_
  · simp -implicitDefEqProofs only [vqa, Nat.reduceEqDiff, Nat.reduceAdd, reduceIte, Nat.reduceLeDiff, Nat.reduceBEq, Nat.reduceLT, Nat.reduceSub, Int.reduceLT, Int.reduceLE, Int.reduceEq, Int.reduceToNat, Nat.reduceMul, eq_self, implies_true, forall_const]
    rfl
  · rintro i e m hi hi' ⟨h1, h2, h3, m3, h6, m6, h47, h48, h49, hs⟩
    have hxi := hx' i hi
    have bad : ¬ litOk G.nodes (xs i) → withF G G.nr G.nr d en = 2 := fun hb => by
      have hl : lenW G G.nr G.nr d en = 2 := by rw [hlW']; exact scan_stop hs (by unfold badLit; rw [if_neg hb]) (by decide) _ hi
      rw [hwF, hl]; rfl
    unfold a64_0
    simp -implicitDefEqProofs only [vqa, Nat.reduceEqDiff, Nat.reduceAdd, reduceIte, Nat.reduceLeDiff, Nat.reduceBEq, Nat.reduceLT, Nat.reduceSub, Int.reduceLT, Int.reduceLE, Int.reduceEq, Int.reduceToNat, Nat.reduceMul, eq_self, implies_true, forall_const, h1, h2, h3, m3, h6, m6, h47, h48, h49, hi', hxi]
    have hL : L64 (xs i) := by
      rw [← hxs]
      show L64 (if i < G.nr then d i else en (i - G.nr))
      split
      · exact hLd _ (by omega)
      · exact hLe _ (by omega)
    unfold L64 at hL
    refine ⟨by omega, fun c1 => ⟨by decide, ?_⟩, fun c1 => ?_⟩
    · refine CallW.sc pN rfl ⟨⟨trivial, trivial, trivial, trivial, trivial, trivial⟩, trivial⟩ fun r hr => ⟨by subst hr; rfl, ?_⟩
      subst hr
      simp -implicitDefEqProofs only [vqa, Nat.reduceEqDiff, Nat.reduceAdd, reduceIte, Nat.reduceLeDiff, Nat.reduceBEq, Nat.reduceLT, Nat.reduceSub, Int.reduceLT, Int.reduceLE, Int.reduceEq, Int.reduceToNat, Nat.reduceMul, eq_self, implies_true, forall_const, h1, h2, h3, m3, h6, m6, h47, h48, h49]
      have et : IntKind.i64.wrap ((xs i).tdiv 2) = xs i / 2 := by rw [Int.tdiv_eq_ediv_of_nonneg (by omega), wI (by omega) (by omega)]
      rw [et]
      refine ⟨fun c2 => err _ _ _ _ _ _ (bad (by unfold litOk; omega)) (by decide), fun c2 => ⟨hi, wI (by omega) (by omega), scan_step hs (by unfold badLit; rw [if_pos]; unfold litOk; omega)⟩⟩
    · exact err _ _ _ _ _ _ (bad (by unfold litOk; omega)) (by decide)
  · rintro e m ⟨h1, h2, h3, m3, h6, m6, h47, h48, h49, hs⟩
    have hok : ∀ i, i < 2 * G.nr → litOk G.nodes (xs i) := fun i hi => badLit_zero (scan_zero hs i hi)
    have kd : ∀ i, i < G.nr → litOk G.nodes (d i) := fun i hi => by
      have := hok i (by omega); rw [← hxs] at this; simpa only [hi, if_true] using this
    have ke : ∀ i, i < G.nr → litOk G.nodes (en i) := fun i hi => by
      have := hok (G.nr + i) (by omega); rw [← hxs] at this
      simpa only [show ¬ (G.nr + i < G.nr) by omega, if_false, Nat.add_sub_cancel_left] using this
    have hwN : withF G G.nr G.nr d en = formF (withN G d en) := by rw [hwF, hlW', hs]; rfl
    unfold a64_0
    simp -implicitDefEqProofs only [vqa, Nat.reduceEqDiff, Nat.reduceAdd, reduceIte, Nat.reduceLeDiff, Nat.reduceBEq, Nat.reduceLT, Nat.reduceSub, Int.reduceLT, Int.reduceLE, Int.reduceEq, Int.reduceToNat, Nat.reduceMul, eq_self, implies_true, forall_const, h1, h2, h3, m3, h6, m6, h47, h48, h49]
    refine vAnyF [0, 1, 3, 4, 2, 5, 6] 7 8 11 11 [.cap0, .cap0, .cap0, .cap0, .cap0] (oneL 3) (by kernel_rfl) (by kernel_rfl) (by kernel_rfl) (by kernel_rfl) ?_
    simp -implicitDefEqProofs only [vqa, Nat.reduceEqDiff, Nat.reduceAdd, reduceIte, Nat.reduceLeDiff, Nat.reduceBEq, Nat.reduceLT, Nat.reduceSub, Int.reduceLT, Int.reduceLE, Int.reduceEq, Int.reduceToNat, Nat.reduceMul, eq_self, implies_true, forall_const, h1, h2, h3, m3, h6, m6, restr_one, agree_one]
    refine CallX.fz (p40z G.ni f0 (fun i hi => by rw [g0 i hi]; exact ⟨rfl, rfl⟩) (by omega)) rfl rfl fun r ⟨a0, hr, k0⟩ => ⟨by subst hr; rfl, ?_⟩
    subst hr
    simp -implicitDefEqProofs only [vqa, Nat.reduceEqDiff, Nat.reduceAdd, reduceIte, Nat.reduceLeDiff, Nat.reduceBEq, Nat.reduceLT, Nat.reduceSub, Int.reduceLT, Int.reduceLE, Int.reduceEq, Int.reduceToNat, Nat.reduceMul, eq_self, implies_true, forall_const, h1, h2, h3, m3, h6, m6, restr_one, agree_one]
    refine CallX.fz (p40z G.no f1 (fun i hi => by rw [g1 i hi]; exact ⟨rfl, rfl⟩) (by omega)) rfl rfl fun r ⟨a1, hr, k1⟩ => ⟨by subst hr; rfl, ?_⟩
    subst hr
    simp -implicitDefEqProofs only [vqa, Nat.reduceEqDiff, Nat.reduceAdd, reduceIte, Nat.reduceLeDiff, Nat.reduceBEq, Nat.reduceLT, Nat.reduceSub, Int.reduceLT, Int.reduceLE, Int.reduceEq, Int.reduceToNat, Nat.reduceMul, eq_self, implies_true, forall_const, h1, h2, h3, m3, h6, m6, restr_one, agree_one]
    generalize (m 11).ver + 1 = V11
    refine vFor G.nr (fun i e m => e 1 = .fs G.nr fd ∧ e 2 = .fs G.nr fe ∧ e 3 = .ptr 3 V3 0 ∧ m 3 = .var V3 [.fs G.ni f0, .fs G.no f1, .fs G.nr f2, .fs G.na f3, .fs G.nk f4] ∧ e 6 = .ptr 6 V6 0 ∧ m 6 = .var V6 [.cap0, .cap0, .cap0, .cap0, .cap0] ∧ e 11 = .ptr 11 V11 0 ∧ e 72 = .fs G.nr f2 ∧ e 73 = .int .i64 G.nr ∧ e 74 = .int .i64 i ∧ ∃ xf, m 11 = .var V11 [.fs G.ni a0, .fs G.no a1, xf, .cap0, .cap0] ∧ AccP [86] 129 5 i (fun j a => a = (⟨(G.reg j).name, -1, 0, 0, (G.reg j).init⟩ : FlopV).av) xf m) ?_ ?_ ?_
    · simp -implicitDefEqProofs only [vqa, Nat.reduceEqDiff, Nat.reduceAdd, reduceIte, Nat.reduceLeDiff, Nat.reduceBEq, Nat.reduceLT, Nat.reduceSub, Int.reduceLT, Int.reduceLE, Int.reduceEq, Int.reduceToNat, Nat.reduceMul, eq_self, implies_true, forall_const, h1, h2, h3, m3, h6, m6]
      exact ⟨_, rfl, .inl ⟨rfl, rfl⟩⟩
    · rintro i e m hi hi' ⟨h1, h2, h3, m3, h6, m6, h11, h72, h73, h74, xf, m11, hF⟩
      have hfi := g2 i hi
      unfold RegV.av at hfi
      unfold a64_1
      obtain ⟨hz, rfl⟩ | ⟨s', sv, gg, hs', rfl, hm, hg, hgn⟩ := hF
      · simp -implicitDefEqProofs only [vqa, Nat.reduceEqDiff, Nat.reduceAdd, reduceIte, Nat.reduceLeDiff, Nat.reduceBEq, Nat.reduceLT, Nat.reduceSub, Int.reduceLT, Int.reduceLE, Int.reduceEq, Int.reduceToNat, Nat.reduceMul, eq_self, implies_true, forall_const, h1, h2, h3, m3, h6, m6, h11, m11, h72, h73, h74, hi', hfi]
        subst hz
        exact ⟨by omega, hi, wI (by decide) (by decide), _, rfl, AccP.put (AccP.first (by simp) rfl) (by simp)⟩
      · obtain rfl : s' = 86 := by simpa using hs'
        simp -implicitDefEqProofs only [vqa, Nat.reduceEqDiff, Nat.reduceAdd, reduceIte, Nat.reduceLeDiff, Nat.reduceBEq, Nat.reduceLT, Nat.reduceSub, Int.reduceLT, Int.reduceLE, Int.reduceEq, Int.reduceToNat, Nat.reduceMul, eq_self, implies_true, forall_const, h1, h2, h3, m3, h6, m6, h11, m11, hm, h72, h73, h74, hi', hfi]
        exact ⟨by omega, ⟨by omega, by omega⟩, hi, wI (by omega) (by omega), _, rfl, AccP.put (AccP.push (by simp) hg rfl) (by simp)⟩
    · rintro e m ⟨h1, h2, h3, m3, h6, m6, h11, h72, h73, h74, xf, m11, hF⟩
      unfold a64_1
      simp -implicitDefEqProofs only [vqa, Nat.reduceEqDiff, Nat.reduceAdd, reduceIte, Nat.reduceLeDiff, Nat.reduceBEq, Nat.reduceLT, Nat.reduceSub, Int.reduceLT, Int.reduceLE, Int.reduceEq, Int.reduceToNat, Nat.reduceMul, eq_self, implies_true, forall_const, h1, h2, h3, m3, h6, m6, h11, m11, h72, h73, h74]
      have q1 : ∀ m, restr (twoL 11 15) m 11 = m 11 := fun _ => restr_two1
      have q2 : ∀ m, restr (twoL 11 15) m 15 = m 15 := fun _ => restr_two2
      refine vFor G.na (fun i e m => e 1 = .fs G.nr fd ∧ e 2 = .fs G.nr fe ∧ e 3 = .ptr 3 V3 0 ∧ m 3 = .var V3 [.fs G.ni f0, .fs G.no f1, .fs G.nr f2, .fs G.na f3, .fs G.nk f4] ∧ e 6 = .ptr 6 V6 0 ∧ m 6 = .var V6 [.cap0, .cap0, .cap0, .cap0, .cap0] ∧ e 11 = .ptr 11 V11 0 ∧ e 90 = .fs G.na f3 ∧ e 91 = .int .i64 G.na ∧ e 92 = .int .i64 i ∧ ∃ xf x3, m 11 = .var V11 [.fs G.ni a0, .fs G.no a1, xf, x3, .cap0] ∧ AccP [86] 129 5 G.nr (fun j a => a = (⟨(G.reg j).name, -1, 0, 0, (G.reg j).init⟩ : FlopV).av) xf m ∧ AccP [118] 127 3 i (gateP G []) x3 m) ?_ ?_ ?_
      · simp -implicitDefEqProofs only [vqa, Nat.reduceEqDiff, Nat.reduceAdd, reduceIte, Nat.reduceLeDiff, Nat.reduceBEq, Nat.reduceLT, Nat.reduceSub, Int.reduceLT, Int.reduceLE, Int.reduceEq, Int.reduceToNat, Nat.reduceMul, eq_self, implies_true, forall_const, h1, h2, h3, m3, h6, m6, h11, m11]
        exact ⟨_, _, rfl, hF, .inl ⟨rfl, rfl⟩⟩
      · rintro i e m hi hi' ⟨h1, h2, h3, m3, h6, m6, h11, h90, h91, h92, xf, x3, m11, hF, hA⟩
        have hgi := g3 i hi
        have lA := gd.A i hi; have lB := gd.B i hi
        obtain ⟨lA0, lA1⟩ := lA
        obtain ⟨lB0, lB1⟩ := lB
        have aA : (G.A i).tmod 2 = G.A i % 2 := Int.tmod_eq_emod_of_nonneg lA0
        have aB : (G.B i).tmod 2 = G.B i % 2 := Int.tmod_eq_emod_of_nonneg lB0
        unfold a64_2
        rcases Int.emod_two_eq (G.A i) with pa | pa <;> rcases Int.emod_two_eq (G.B i) with pb | pb
        all_goals rw [pa] at aA
        all_goals rw [pb] at aB
        all_goals obtain ⟨hz, rfl⟩ | ⟨s', sv, gg, hs', rfl, hm, hg, hgn⟩ := hA
        · simp -implicitDefEqProofs only [vqa, Nat.reduceEqDiff, Nat.reduceAdd, reduceIte, Nat.reduceLeDiff, Nat.reduceBEq, Nat.reduceLT, Nat.reduceSub, Int.reduceLT, Int.reduceLE, Int.reduceEq, Int.reduceToNat, Nat.reduceMul, eq_self, implies_true, forall_const, h1, h2, h3, m3, h6, m6, h11, m11, h90, h91, h92, hi', hgi, aA, aB]
          refine ⟨by omega, ?_⟩
          repeat refine ⟨by decide, ?_⟩
          refine vAny [0, 1, 2, 3, 4, 5, 7, 8, 6, 9, 10, 11, 12, 13, 14, 15] 15 (twoL 11 15) (by kernel_rfl) (by kernel_rfl) ?_
          simp -implicitDefEqProofs only [vqa, Nat.reduceEqDiff, Nat.reduceAdd, reduceIte, Nat.reduceLeDiff, Nat.reduceBEq, Nat.reduceLT, Nat.reduceSub, Int.reduceLT, Int.reduceLE, Int.reduceEq, Int.reduceToNat, Nat.reduceMul, eq_self, implies_true, forall_const, q1, q2, h1, h2, h3, m3, h6, m6, h11, m11, h90, h91, h92, hi', hgi, aA, aB]
          repeat refine ⟨by decide, ?_⟩
          refine CallW.sc (p89 (G.A i) lA0 (by omega)) rfl ⟨trivial, trivial⟩ fun r hr => ⟨by subst hr; rfl, ?_⟩
          subst hr
          simp -implicitDefEqProofs only [vqa, Nat.reduceEqDiff, Nat.reduceAdd, reduceIte, Nat.reduceLeDiff, Nat.reduceBEq, Nat.reduceLT, Nat.reduceSub, Int.reduceLT, Int.reduceLE, Int.reduceEq, Int.reduceToNat, Nat.reduceMul, eq_self, implies_true, forall_const, q1, q2, agree_two, h1, h2, h3, m3, h6, m6, h11, m11, h90, h91, h92, hi', hgi, aA, aB]
          refine CallW.sc (p89 (G.B i) lB0 (by omega)) rfl ⟨trivial, trivial⟩ fun r hr => ⟨by subst hr; rfl, ?_⟩
          subst hr
          simp -implicitDefEqProofs only [vqa, Nat.reduceEqDiff, Nat.reduceAdd, reduceIte, Nat.reduceLeDiff, Nat.reduceBEq, Nat.reduceLT, Nat.reduceSub, Int.reduceLT, Int.reduceLE, Int.reduceEq, Int.reduceToNat, Nat.reduceMul, eq_self, implies_true, forall_const, q1, q2, agree_two, h1, h2, h3, m3, h6, m6, h11, m11, h90, h91, h92, hi', hgi, aA, aB]
          subst hz
          refine ⟨hi, wI (by omega) (by omega), _, _, rfl, ?_, AccP.put (AccP.first (by simp) (gateP_and hi (by unfold tabW; rw [pa, pb]; decide) rfl rfl)) (by simp)⟩
          exact (((((((hF.put (by simp)).put (by simp)).put (by simp)).put (by simp)).put (by simp)).put (by simp)).put (by simp))
        · obtain rfl : s' = 118 := by simpa using hs'
          simp -implicitDefEqProofs only [vqa, Nat.reduceEqDiff, Nat.reduceAdd, reduceIte, Nat.reduceLeDiff, Nat.reduceBEq, Nat.reduceLT, Nat.reduceSub, Int.reduceLT, Int.reduceLE, Int.reduceEq, Int.reduceToNat, Nat.reduceMul, eq_self, implies_true, forall_const, h1, h2, h3, m3, h6, m6, h11, m11, h90, h91, h92, hi', hgi, aA, aB, hm]
          refine ⟨by omega, ?_⟩
          repeat refine ⟨by decide, ?_⟩
          refine vAny [0, 1, 2, 3, 4, 5, 7, 8, 6, 9, 10, 11, 12, 13, 14, 15] 15 (twoL 11 15) (by kernel_rfl) (by kernel_rfl) ?_
          simp -implicitDefEqProofs only [vqa, Nat.reduceEqDiff, Nat.reduceAdd, reduceIte, Nat.reduceLeDiff, Nat.reduceBEq, Nat.reduceLT, Nat.reduceSub, Int.reduceLT, Int.reduceLE, Int.reduceEq, Int.reduceToNat, Nat.reduceMul, eq_self, implies_true, forall_const, q1, q2, h1, h2, h3, m3, h6, m6, h11, m11, h90, h91, h92, hi', hgi, aA, aB, hm]
          repeat refine ⟨by decide, ?_⟩
          refine CallW.sc (p89 (G.A i) lA0 (by omega)) rfl ⟨trivial, trivial⟩ fun r hr => ⟨by subst hr; rfl, ?_⟩
          subst hr
          simp -implicitDefEqProofs only [vqa, Nat.reduceEqDiff, Nat.reduceAdd, reduceIte, Nat.reduceLeDiff, Nat.reduceBEq, Nat.reduceLT, Nat.reduceSub, Int.reduceLT, Int.reduceLE, Int.reduceEq, Int.reduceToNat, Nat.reduceMul, eq_self, implies_true, forall_const, q1, q2, agree_two, h1, h2, h3, m3, h6, m6, h11, m11, h90, h91, h92, hi', hgi, aA, aB, hm]
          refine CallW.sc (p89 (G.B i) lB0 (by omega)) rfl ⟨trivial, trivial⟩ fun r hr => ⟨by subst hr; rfl, ?_⟩
          subst hr
          simp -implicitDefEqProofs only [vqa, Nat.reduceEqDiff, Nat.reduceAdd, reduceIte, Nat.reduceLeDiff, Nat.reduceBEq, Nat.reduceLT, Nat.reduceSub, Int.reduceLT, Int.reduceLE, Int.reduceEq, Int.reduceToNat, Nat.reduceMul, eq_self, implies_true, forall_const, q1, q2, agree_two, h1, h2, h3, m3, h6, m6, h11, m11, h90, h91, h92, hi', hgi, aA, aB, hm]
          refine ⟨⟨by omega, by omega⟩, hi, wI (by omega) (by omega), _, _, rfl, ?_, AccP.put (AccP.push (by simp) hg (gateP_and hi (by unfold tabW; rw [pa, pb]; decide) rfl rfl)) (by simp)⟩
          exact (((((((hF.put (by simp)).put (by simp)).put (by simp)).put (by simp)).put (by simp)).put (by simp)).put (by simp))
        · simp -implicitDefEqProofs only [vqa, Nat.reduceEqDiff, Nat.reduceAdd, reduceIte, Nat.reduceLeDiff, Nat.reduceBEq, Nat.reduceLT, Nat.reduceSub, Int.reduceLT, Int.reduceLE, Int.reduceEq, Int.reduceToNat, Nat.reduceMul, eq_self, implies_true, forall_const, h1, h2, h3, m3, h6, m6, h11, m11, h90, h91, h92, hi', hgi, aA, aB]
          refine ⟨by omega, ?_⟩
          repeat refine ⟨by decide, ?_⟩
          refine vAny [0, 1, 2, 3, 4, 5, 7, 8, 6, 9, 10, 11, 12, 13, 14, 15] 15 (twoL 11 15) (by kernel_rfl) (by kernel_rfl) ?_
          simp -implicitDefEqProofs only [vqa, Nat.reduceEqDiff, Nat.reduceAdd, reduceIte, Nat.reduceLeDiff, Nat.reduceBEq, Nat.reduceLT, Nat.reduceSub, Int.reduceLT, Int.reduceLE, Int.reduceEq, Int.reduceToNat, Nat.reduceMul, eq_self, implies_true, forall_const, q1, q2, h1, h2, h3, m3, h6, m6, h11, m11, h90, h91, h92, hi', hgi, aA, aB]
          repeat refine ⟨by decide, ?_⟩
          refine CallW.sc (p89 (G.A i) lA0 (by omega)) rfl ⟨trivial, trivial⟩ fun r hr => ⟨by subst hr; rfl, ?_⟩
          subst hr
          simp -implicitDefEqProofs only [vqa, Nat.reduceEqDiff, Nat.reduceAdd, reduceIte, Nat.reduceLeDiff, Nat.reduceBEq, Nat.reduceLT, Nat.reduceSub, Int.reduceLT, Int.reduceLE, Int.reduceEq, Int.reduceToNat, Nat.reduceMul, eq_self, implies_true, forall_const, q1, q2, agree_two, h1, h2, h3, m3, h6, m6, h11, m11, h90, h91, h92, hi', hgi, aA, aB]
          refine CallW.sc (p89 (G.B i) lB0 (by omega)) rfl ⟨trivial, trivial⟩ fun r hr => ⟨by subst hr; rfl, ?_⟩
          subst hr
          simp -implicitDefEqProofs only [vqa, Nat.reduceEqDiff, Nat.reduceAdd, reduceIte, Nat.reduceLeDiff, Nat.reduceBEq, Nat.reduceLT, Nat.reduceSub, Int.reduceLT, Int.reduceLE, Int.reduceEq, Int.reduceToNat, Nat.reduceMul, eq_self, implies_true, forall_const, q1, q2, agree_two, h1, h2, h3, m3, h6, m6, h11, m11, h90, h91, h92, hi', hgi, aA, aB]
          subst hz
          refine ⟨hi, wI (by omega) (by omega), _, _, rfl, ?_, AccP.put (AccP.first (by simp) (gateP_and hi (by unfold tabW; rw [pa, pb]; decide) rfl rfl)) (by simp)⟩
          exact (((((((hF.put (by simp)).put (by simp)).put (by simp)).put (by simp)).put (by simp)).put (by simp)).put (by simp))
        · obtain rfl : s' = 118 := by simpa using hs'
          simp -implicitDefEqProofs only [vqa, Nat.reduceEqDiff, Nat.reduceAdd, reduceIte, Nat.reduceLeDiff, Nat.reduceBEq, Nat.reduceLT, Nat.reduceSub, Int.reduceLT, Int.reduceLE, Int.reduceEq, Int.reduceToNat, Nat.reduceMul, eq_self, implies_true, forall_const, h1, h2, h3, m3, h6, m6, h11, m11, h90, h91, h92, hi', hgi, aA, aB, hm]
          refine ⟨by omega, ?_⟩
          repeat refine ⟨by decide, ?_⟩
          refine vAny [0, 1, 2, 3, 4, 5, 7, 8, 6, 9, 10, 11, 12, 13, 14, 15] 15 (twoL 11 15) (by kernel_rfl) (by kernel_rfl) ?_
          simp -implicitDefEqProofs only [vqa, Nat.reduceEqDiff, Nat.reduceAdd, reduceIte, Nat.reduceLeDiff, Nat.reduceBEq, Nat.reduceLT, Nat.reduceSub, Int.reduceLT, Int.reduceLE, Int.reduceEq, Int.reduceToNat, Nat.reduceMul, eq_self, implies_true, forall_const, q1, q2, h1, h2, h3, m3, h6, m6, h11, m11, h90, h91, h92, hi', hgi, aA, aB, hm]
          repeat refine ⟨by decide, ?_⟩
          refine CallW.sc (p89 (G.A i) lA0 (by omega)) rfl ⟨trivial, trivial⟩ fun r hr => ⟨by subst hr; rfl, ?_⟩
          subst hr
          simp -implicitDefEqProofs only [vqa, Nat.reduceEqDiff, Nat.reduceAdd, reduceIte, Nat.reduceLeDiff, Nat.reduceBEq, Nat.reduceLT, Nat.reduceSub, Int.reduceLT, Int.reduceLE, Int.reduceEq, Int.reduceToNat, Nat.reduceMul, eq_self, implies_true, forall_const, q1, q2, agree_two, h1, h2, h3, m3, h6, m6, h11, m11, h90, h91, h92, hi', hgi, aA, aB, hm]
          refine CallW.sc (p89 (G.B i) lB0 (by omega)) rfl ⟨trivial, trivial⟩ fun r hr => ⟨by subst hr; rfl, ?_⟩
          subst hr
          simp -implicitDefEqProofs only [vqa, Nat.reduceEqDiff, Nat.reduceAdd, reduceIte, Nat.reduceLeDiff, Nat.reduceBEq, Nat.reduceLT, Nat.reduceSub, Int.reduceLT, Int.reduceLE, Int.reduceEq, Int.reduceToNat, Nat.reduceMul, eq_self, implies_true, forall_const, q1, q2, agree_two, h1, h2, h3, m3, h6, m6, h11, m11, h90, h91, h92, hi', hgi, aA, aB, hm]
          refine ⟨⟨by omega, by omega⟩, hi, wI (by omega) (by omega), _, _, rfl, ?_, AccP.put (AccP.push (by simp) hg (gateP_and hi (by unfold tabW; rw [pa, pb]; decide) rfl rfl)) (by simp)⟩
          exact (((((((hF.put (by simp)).put (by simp)).put (by simp)).put (by simp)).put (by simp)).put (by simp)).put (by simp))
        · simp -implicitDefEqProofs only [vqa, Nat.reduceEqDiff, Nat.reduceAdd, reduceIte, Nat.reduceLeDiff, Nat.reduceBEq, Nat.reduceLT, Nat.reduceSub, Int.reduceLT, Int.reduceLE, Int.reduceEq, Int.reduceToNat, Nat.reduceMul, eq_self, implies_true, forall_const, h1, h2, h3, m3, h6, m6, h11, m11, h90, h91, h92, hi', hgi, aA, aB]
          refine ⟨by omega, ?_⟩
          repeat refine ⟨by decide, ?_⟩
          refine vAny [0, 1, 2, 3, 4, 5, 7, 8, 6, 9, 10, 11, 12, 13, 14, 15] 15 (twoL 11 15) (by kernel_rfl) (by kernel_rfl) ?_
          simp -implicitDefEqProofs only [vqa, Nat.reduceEqDiff, Nat.reduceAdd, reduceIte, Nat.reduceLeDiff, Nat.reduceBEq, Nat.reduceLT, Nat.reduceSub, Int.reduceLT, Int.reduceLE, Int.reduceEq, Int.reduceToNat, Nat.reduceMul, eq_self, implies_true, forall_const, q1, q2, h1, h2, h3, m3, h6, m6, h11, m11, h90, h91, h92, hi', hgi, aA, aB]
          repeat refine ⟨by decide, ?_⟩
          refine CallW.sc (p89 (G.A i) lA0 (by omega)) rfl ⟨trivial, trivial⟩ fun r hr => ⟨by subst hr; rfl, ?_⟩
          subst hr
          simp -implicitDefEqProofs only [vqa, Nat.reduceEqDiff, Nat.reduceAdd, reduceIte, Nat.reduceLeDiff, Nat.reduceBEq, Nat.reduceLT, Nat.reduceSub, Int.reduceLT, Int.reduceLE, Int.reduceEq, Int.reduceToNat, Nat.reduceMul, eq_self, implies_true, forall_const, q1, q2, agree_two, h1, h2, h3, m3, h6, m6, h11, m11, h90, h91, h92, hi', hgi, aA, aB]
          refine CallW.sc (p89 (G.B i) lB0 (by omega)) rfl ⟨trivial, trivial⟩ fun r hr => ⟨by subst hr; rfl, ?_⟩
          subst hr
          simp -implicitDefEqProofs only [vqa, Nat.reduceEqDiff, Nat.reduceAdd, reduceIte, Nat.reduceLeDiff, Nat.reduceBEq, Nat.reduceLT, Nat.reduceSub, Int.reduceLT, Int.reduceLE, Int.reduceEq, Int.reduceToNat, Nat.reduceMul, eq_self, implies_true, forall_const, q1, q2, agree_two, h1, h2, h3, m3, h6, m6, h11, m11, h90, h91, h92, hi', hgi, aA, aB]
          subst hz
          refine ⟨hi, wI (by omega) (by omega), _, _, rfl, ?_, AccP.put (AccP.first (by simp) (gateP_and hi (by unfold tabW; rw [pa, pb]; decide) rfl rfl)) (by simp)⟩
          exact (((((((hF.put (by simp)).put (by simp)).put (by simp)).put (by simp)).put (by simp)).put (by simp)).put (by simp))
        · obtain rfl : s' = 118 := by simpa using hs'
          simp -implicitDefEqProofs only [vqa, Nat.reduceEqDiff, Nat.reduceAdd, reduceIte, Nat.reduceLeDiff, Nat.reduceBEq, Nat.reduceLT, Nat.reduceSub, Int.reduceLT, Int.reduceLE, Int.reduceEq, Int.reduceToNat, Nat.reduceMul, eq_self, implies_true, forall_const, h1, h2, h3, m3, h6, m6, h11, m11, h90, h91, h92, hi', hgi, aA, aB, hm]
          refine ⟨by omega, ?_⟩
          repeat refine ⟨by decide, ?_⟩
          refine vAny [0, 1, 2, 3, 4, 5, 7, 8, 6, 9, 10, 11, 12, 13, 14, 15] 15 (twoL 11 15) (by kernel_rfl) (by kernel_rfl) ?_
          simp -implicitDefEqProofs only [vqa, Nat.reduceEqDiff, Nat.reduceAdd, reduceIte, Nat.reduceLeDiff, Nat.reduceBEq, Nat.reduceLT, Nat.reduceSub, Int.reduceLT, Int.reduceLE, Int.reduceEq, Int.reduceToNat, Nat.reduceMul, eq_self, implies_true, forall_const, q1, q2, h1, h2, h3, m3, h6, m6, h11, m11, h90, h91, h92, hi', hgi, aA, aB, hm]
          repeat refine ⟨by decide, ?_⟩
          refine CallW.sc (p89 (G.A i) lA0 (by omega)) rfl ⟨trivial, trivial⟩ fun r hr => ⟨by subst hr; rfl, ?_⟩
          subst hr
          simp -implicitDefEqProofs only [vqa, Nat.reduceEqDiff, Nat.reduceAdd, reduceIte, Nat.reduceLeDiff, Nat.reduceBEq, Nat.reduceLT, Nat.reduceSub, Int.reduceLT, Int.reduceLE, Int.reduceEq, Int.reduceToNat, Nat.reduceMul, eq_self, implies_true, forall_const, q1, q2, agree_two, h1, h2, h3, m3, h6, m6, h11, m11, h90, h91, h92, hi', hgi, aA, aB, hm]
          refine CallW.sc (p89 (G.B i) lB0 (by omega)) rfl ⟨trivial, trivial⟩ fun r hr => ⟨by subst hr; rfl, ?_⟩
          subst hr
          simp -implicitDefEqProofs only [vqa, Nat.reduceEqDiff, Nat.reduceAdd, reduceIte, Nat.reduceLeDiff, Nat.reduceBEq, Nat.reduceLT, Nat.reduceSub, Int.reduceLT, Int.reduceLE, Int.reduceEq, Int.reduceToNat, Nat.reduceMul, eq_self, implies_true, forall_const, q1, q2, agree_two, h1, h2, h3, m3, h6, m6, h11, m11, h90, h91, h92, hi', hgi, aA, aB, hm]
          refine ⟨⟨by omega, by omega⟩, hi, wI (by omega) (by omega), _, _, rfl, ?_, AccP.put (AccP.push (by simp) hg (gateP_and hi (by unfold tabW; rw [pa, pb]; decide) rfl rfl)) (by simp)⟩
          exact (((((((hF.put (by simp)).put (by simp)).put (by simp)).put (by simp)).put (by simp)).put (by simp)).put (by simp))
        · simp -implicitDefEqProofs only [vqa, Nat.reduceEqDiff, Nat.reduceAdd, reduceIte, Nat.reduceLeDiff, Nat.reduceBEq, Nat.reduceLT, Nat.reduceSub, Int.reduceLT, Int.reduceLE, Int.reduceEq, Int.reduceToNat, Nat.reduceMul, eq_self, implies_true, forall_const, h1, h2, h3, m3, h6, m6, h11, m11, h90, h91, h92, hi', hgi, aA, aB]
          refine ⟨by omega, ?_⟩
          repeat refine ⟨by decide, ?_⟩
          refine vAny [0, 1, 2, 3, 4, 5, 7, 8, 6, 9, 10, 11, 12, 13, 14, 15] 15 (twoL 11 15) (by kernel_rfl) (by kernel_rfl) ?_
          simp -implicitDefEqProofs only [vqa, Nat.reduceEqDiff, Nat.reduceAdd, reduceIte, Nat.reduceLeDiff, Nat.reduceBEq, Nat.reduceLT, Nat.reduceSub, Int.reduceLT, Int.reduceLE, Int.reduceEq, Int.reduceToNat, Nat.reduceMul, eq_self, implies_true, forall_const, q1, q2, h1, h2, h3, m3, h6, m6, h11, m11, h90, h91, h92, hi', hgi, aA, aB]
          repeat refine ⟨by decide, ?_⟩
          refine CallW.sc (p89 (G.A i) lA0 (by omega)) rfl ⟨trivial, trivial⟩ fun r hr => ⟨by subst hr; rfl, ?_⟩
          subst hr
          simp -implicitDefEqProofs only [vqa, Nat.reduceEqDiff, Nat.reduceAdd, reduceIte, Nat.reduceLeDiff, Nat.reduceBEq, Nat.reduceLT, Nat.reduceSub, Int.reduceLT, Int.reduceLE, Int.reduceEq, Int.reduceToNat, Nat.reduceMul, eq_self, implies_true, forall_const, q1, q2, agree_two, h1, h2, h3, m3, h6, m6, h11, m11, h90, h91, h92, hi', hgi, aA, aB]
          refine CallW.sc (p89 (G.B i) lB0 (by omega)) rfl ⟨trivial, trivial⟩ fun r hr => ⟨by subst hr; rfl, ?_⟩
          subst hr
          simp -implicitDefEqProofs only [vqa, Nat.reduceEqDiff, Nat.reduceAdd, reduceIte, Nat.reduceLeDiff, Nat.reduceBEq, Nat.reduceLT, Nat.reduceSub, Int.reduceLT, Int.reduceLE, Int.reduceEq, Int.reduceToNat, Nat.reduceMul, eq_self, implies_true, forall_const, q1, q2, agree_two, h1, h2, h3, m3, h6, m6, h11, m11, h90, h91, h92, hi', hgi, aA, aB]
          subst hz
          refine ⟨hi, wI (by omega) (by omega), _, _, rfl, ?_, AccP.put (AccP.first (by simp) (gateP_and hi (by unfold tabW; rw [pa, pb]; decide) rfl rfl)) (by simp)⟩
          exact (((((((hF.put (by simp)).put (by simp)).put (by simp)).put (by simp)).put (by simp)).put (by simp)).put (by simp))
        · obtain rfl : s' = 118 := by simpa using hs'
          simp -implicitDefEqProofs only [vqa, Nat.reduceEqDiff, Nat.reduceAdd, reduceIte, Nat.reduceLeDiff, Nat.reduceBEq, Nat.reduceLT, Nat.reduceSub, Int.reduceLT, Int.reduceLE, Int.reduceEq, Int.reduceToNat, Nat.reduceMul, eq_self, implies_true, forall_const, h1, h2, h3, m3, h6, m6, h11, m11, h90, h91, h92, hi', hgi, aA, aB, hm]
          refine ⟨by omega, ?_⟩
          repeat refine ⟨by decide, ?_⟩
          refine vAny [0, 1, 2, 3, 4, 5, 7, 8, 6, 9, 10, 11, 12, 13, 14, 15] 15 (twoL 11 15) (by kernel_rfl) (by kernel_rfl) ?_
          simp -implicitDefEqProofs only [vqa, Nat.reduceEqDiff, Nat.reduceAdd, reduceIte, Nat.reduceLeDiff, Nat.reduceBEq, Nat.reduceLT, Nat.reduceSub, Int.reduceLT, Int.reduceLE, Int.reduceEq, Int.reduceToNat, Nat.reduceMul, eq_self, implies_true, forall_const, q1, q2, h1, h2, h3, m3, h6, m6, h11, m11, h90, h91, h92, hi', hgi, aA, aB, hm]
          repeat refine ⟨by decide, ?_⟩
          refine CallW.sc (p89 (G.A i) lA0 (by omega)) rfl ⟨trivial, trivial⟩ fun r hr => ⟨by subst hr; rfl, ?_⟩
          subst hr
          simp -implicitDefEqProofs only [vqa, Nat.reduceEqDiff, Nat.reduceAdd, reduceIte, Nat.reduceLeDiff, Nat.reduceBEq, Nat.reduceLT, Nat.reduceSub, Int.reduceLT, Int.reduceLE, Int.reduceEq, Int.reduceToNat, Nat.reduceMul, eq_self, implies_true, forall_const, q1, q2, agree_two, h1, h2, h3, m3, h6, m6, h11, m11, h90, h91, h92, hi', hgi, aA, aB, hm]
          refine CallW.sc (p89 (G.B i) lB0 (by omega)) rfl ⟨trivial, trivial⟩ fun r hr => ⟨by subst hr; rfl, ?_⟩
          subst hr
          simp -implicitDefEqProofs only [vqa, Nat.reduceEqDiff, Nat.reduceAdd, reduceIte, Nat.reduceLeDiff, Nat.reduceBEq, Nat.reduceLT, Nat.reduceSub, Int.reduceLT, Int.reduceLE, Int.reduceEq, Int.reduceToNat, Nat.reduceMul, eq_self, implies_true, forall_const, q1, q2, agree_two, h1, h2, h3, m3, h6, m6, h11, m11, h90, h91, h92, hi', hgi, aA, aB, hm]
          refine ⟨⟨by omega, by omega⟩, hi, wI (by omega) (by omega), _, _, rfl, ?_, AccP.put (AccP.push (by simp) hg (gateP_and hi (by unfold tabW; rw [pa, pb]; decide) rfl rfl)) (by simp)⟩
          exact (((((((hF.put (by simp)).put (by simp)).put (by simp)).put (by simp)).put (by simp)).put (by simp)).put (by simp))
      · rintro e m ⟨h1, h2, h3, m3, h6, m6, h11, h90, h91, h92, xf, x3, m11, hF, hA⟩
        unfold a64_2
        simp -implicitDefEqProofs only [vqa, Nat.reduceEqDiff, Nat.reduceAdd, reduceIte, Nat.reduceLeDiff, Nat.reduceBEq, Nat.reduceLT, Nat.reduceSub, Int.reduceLT, Int.reduceLE, Int.reduceEq, Int.reduceToNat, Nat.reduceMul, eq_self, implies_true, forall_const, h1, h2, h3, m3, h6, m6, h11, m11, h90, h91, h92]
        generalize (m 121).ver + 1 = VM
        generalize (m 17).ver + 1 = V17
        have hsg : (G.na = 0 ∧ sh G = 1035) ∨ (0 < G.na ∧ sh G = 118) := by unfold sh; split <;> omega
        have hA0 : AccP [sh G] 127 3 G.na (gateP G []) x3 m := by
          obtain ⟨hz, hx⟩ | ⟨s', sv, gg, hs', hx, hm, hg, hgn⟩ := hA
          · exact .inl ⟨hz, hx⟩
          · obtain rfl : s' = 118 := by simpa using hs'
            exact .inr ⟨118, sv, gg, by simp <;> omega, hx, hm, hg, hgn⟩
        refine vFor G.nk (fun i e m => e 1 = .fs G.nr fd ∧ e 2 = .fs G.nr fe ∧ e 3 = .ptr 3 V3 0 ∧ m 3 = .var V3 [.fs G.ni f0, .fs G.no f1, .fs G.nr f2, .fs G.na f3, .fs G.nk f4] ∧ e 6 = .ptr 6 V6 0 ∧ m 6 = .var V6 [.cap0, .cap0, .cap0, .cap0, .cap0] ∧ e 11 = .ptr 11 V11 0 ∧ e 18 = .fn 90 [.ptr 17 V17 0, .ptr 11 V11 0] ∧ e 125 = .fs G.nk f4 ∧ e 126 = .int .i64 G.nk ∧ e 127 = .int .i64 i ∧ ∃ xf xo, WiS G d en i V11 V17 VM (.fs G.ni a0) (.fs G.no a1) xf xo m ∧ AccP [86] 129 5 G.nr (fun j a => a = (⟨(G.reg j).name, -1, 0, 0, (G.reg j).init⟩ : FlopV).av) xf m ∧ AccP [137] 3 1 i (outP (withN G d en)) xo m) ?_ ?_ ?_
        · simp -implicitDefEqProofs only [vqa, Nat.reduceEqDiff, Nat.reduceAdd, reduceIte, Nat.reduceLeDiff, Nat.reduceBEq, Nat.reduceLT, Nat.reduceSub, Int.reduceLT, Int.reduceLE, Int.reduceEq, Int.reduceToNat, Nat.reduceMul, eq_self, implies_true, forall_const, h1, h2, h3, m3, h6, m6, h11, m11]
          refine ⟨_, _, ⟨_, _, _, set_same _ _ _, by rw [set_ne (by decide), set_ne (by decide), set_same], map0 _, by rw [set_ne (by decide), set_ne (by decide), set_ne (by decide), set_ne (by decide), set_ne (by decide)]; exact m11, ?_⟩, ((((hF.put (by simp)).put (by simp)).put (by simp)).put (by simp)).put (by simp), .inl ⟨rfl, rfl⟩⟩
          exact ((((hA0.put (by simp <;> omega)).put (by simp <;> omega)).put (by simp <;> omega)).put (by simp <;> omega)).put (by simp <;> omega)
        · rintro i e m hi hi' ⟨h1, h2, h3, m3, h6, m6, h11, h18, h125, h126, h127, xf, xo, hW, hF, hO⟩
          have hfi := g4 i hi
          have hWc := hW
          obtain ⟨p, g, x3, m17, mM, hM, m11, hA⟩ := hW
          unfold a64_3
          simp -implicitDefEqProofs only [vqa, Nat.reduceEqDiff, Nat.reduceAdd, reduceIte, Nat.reduceLeDiff, Nat.reduceBEq, Nat.reduceLT, Nat.reduceSub, Int.reduceLT, Int.reduceLE, Int.reduceEq, Int.reduceToNat, Nat.reduceMul, eq_self, implies_true, forall_const, h1, h2, h3, m3, h6, m6, h11, m11, h18, h125, h126, h127, hi', hfi]
          refine ⟨by omega, ?_⟩
          refine vAnyR [0, 1, 2, 3, 4, 5, 6, 7, 8] 8 (fun m => ∃ y, m 11 = .var V11 [.fs G.ni a0, .fs G.no a1, xf, y, xo]) (by kernel_rfl) (by kernel_rfl) ⟨x3, m11⟩ ?_
          simp -implicitDefEqProofs only [vqa, Nat.reduceEqDiff, Nat.reduceAdd, reduceIte, Nat.reduceLeDiff, Nat.reduceBEq, Nat.reduceLT, Nat.reduceSub, Int.reduceLT, Int.reduceLE, Int.reduceEq, Int.reduceToNat, Nat.reduceMul, eq_self, implies_true, forall_const, srNil, srCons, srOV, srVS, srOC, srCS, srK_at, srOE, srES, AOp.pureB, h1, h2, h3, m3, h6, m6, h11, m11, h18, h125, h126, h127]
          refine ⟨fun m ⟨y, hy⟩ => by rw [hy]; exact ⟨_, rfl, rfl⟩, fun m ⟨y, hy⟩ => by rw [hy]; exact ⟨_, rfl, rfl⟩, ?_⟩
          obtain ⟨ff, rf, _⟩ := hF.rs0
          obtain ⟨fo, ro, _⟩ := hO.rs0
          refine (hWc.call gd (r0 := rfl) (r1 := rfl) (r2 := rf) (r4 := ro) (by omega) (G.outs i) (qW_out hi).symm (gd.outs i hi)).mono fun v m' ⟨hv, hW', hK⟩ => ?_
          subst hv
          have n3 := (hK 3 (by decide) (by decide) (by decide) (by decide)).trans m3
          have n6 := (hK 6 (by decide) (by decide) (by decide) (by decide)).trans m6
          have hF' := hF.keep (m' := m') fun k hk => by
            obtain rfl : k = 86 := by simpa using hk
            exact hK 86 (by decide) (by decide) (by decide) (by decide)
          have hO' := hO.keep (m' := m') fun k hk => by
            obtain rfl : k = 137 := by simpa using hk
            exact hK 137 (by decide) (by decide) (by decide) (by decide)
          obtain ⟨p', g', x3', q17, qM, qI, q11, qA⟩ := hW'
          have fin : ∀ (xn : AV) (mm : Mem), (∀ k, k ≠ 11 → k ≠ 136 → k ≠ 137 → mm k = m' k) → mm 11 = .var V11 [.fs G.ni a0, .fs G.no a1, xf, x3', xn] → WiS G d en (i + 1) V11 V17 VM (.fs G.ni a0) (.fs G.no a1) xf xn mm := fun xn mm hk h7 => by
            refine ⟨p', g', x3', by rw [hk 17 (by decide) (by decide) (by decide)]; exact q17, by rw [hk 121 (by decide) (by decide) (by decide)]; exact qM, qI, h7, qA.keep fun k h => ?_⟩
            obtain rfl : k = sh G := by simpa using h
            exact hk _ (by omega) (by omega) (by omega)
          obtain ⟨hz, rfl⟩ | ⟨s', sv, gg, hs', rfl, hm, hg, hgn⟩ := hO'
          · simp -implicitDefEqProofs only [vqa, Nat.reduceEqDiff, Nat.reduceAdd, reduceIte, Nat.reduceLeDiff, Nat.reduceBEq, Nat.reduceLT, Nat.reduceSub, Int.reduceLT, Int.reduceLE, Int.reduceEq, Int.reduceToNat, Nat.reduceMul, eq_self, implies_true, forall_const, srNil, srCons, srOV, srVS, srOC, srCS, srK_at, srOE, srES, AOp.pureB, h1, h2, h3, m3, h6, m6, h11, h18, h125, h126, h127, q11]
            subst hz
            refine ⟨⟨x3', rfl⟩, ⟨x3', rfl⟩, ⟨x3', rfl⟩, fun m ⟨y, hy⟩ => by rw [hy]; exact ⟨_, rfl, rfl⟩, ?_⟩
            exact ⟨hi, n3, n6, wI (by decide) (by decide), _, _, fin _ _ (fun k k1 k2 k3 => by rw [set_ne k1, set_ne k3, set_ne k2]) (set_same _ _ _), ((hF'.put (by simp)).put (by simp)).put (by simp), AccP.put (AccP.first (by simp) rfl) (by simp)⟩
          · obtain rfl : s' = 137 := by simpa using hs'
            simp -implicitDefEqProofs only [vqa, Nat.reduceEqDiff, Nat.reduceAdd, reduceIte, Nat.reduceLeDiff, Nat.reduceBEq, Nat.reduceLT, Nat.reduceSub, Int.reduceLT, Int.reduceLE, Int.reduceEq, Int.reduceToNat, Nat.reduceMul, eq_self, implies_true, forall_const, srNil, srCons, srOV, srVS, srOC, srCS, srK_at, srOE, srES, AOp.pureB, h1, h2, h3, m3, h6, m6, h11, h18, h125, h126, h127, q11, hm]
            refine ⟨⟨x3', rfl⟩, ⟨x3', rfl⟩, ⟨by omega, by omega⟩, ⟨x3', rfl⟩, fun m ⟨y, hy⟩ => by rw [hy]; exact ⟨_, rfl, rfl⟩, ?_⟩
            exact ⟨hi, n3, n6, wI (by omega) (by omega), _, _, fin _ _ (fun k k1 k2 k3 => by rw [set_ne k1, set_ne k3, set_ne k2]) (set_same _ _ _), ((hF'.put (by simp)).put (by simp)).put (by simp), AccP.put (AccP.push (by simp) hg rfl) (by simp)⟩
        · rintro e m ⟨h1, h2, h3, m3, h6, m6, h11, h18, h125, h126, h127, xf, xo, hW, hF, hO⟩
          have hWc := hW
          obtain ⟨p, g, x3, m17, mM, hM, m11, hA⟩ := hW
          unfold a64_3
          simp -implicitDefEqProofs only [vqa, Nat.reduceEqDiff, Nat.reduceAdd, reduceIte, Nat.reduceLeDiff, Nat.reduceBEq, Nat.reduceLT, Nat.reduceSub, Int.reduceLT, Int.reduceLE, Int.reduceEq, Int.reduceToNat, Nat.reduceMul, eq_self, implies_true, forall_const, h1, h2, h3, m3, h6, m6, h11, m11, h18, h125, h126, h127]
          have hlenF : ∃ c v, (match xf with
              | AV.fs n f => some (True, AV.int IntKind.i64 n)
              | AV.sl id ver n => match m id with
                | AO.row ver' e sz n_1 f => some (ver = ver', AV.int IntKind.i64 n)
                | x => none
              | AV.cap0 => some (True, AV.int IntKind.i64 0)
              | v => lenV m v) = some (c, v) ∧ c ∧ v = AV.int .i64 G.nr := by
            obtain ⟨hz, rfl⟩ | ⟨s', sv, gg, hs', rfl, hm, hg, hgn⟩ := hF
            · exact ⟨_, _, rfl, trivial, by rw [hz]; rfl⟩
            · simp only [hm]
              exact ⟨_, _, rfl, trivial, rfl⟩
          refine vL_join (fun v => v = AV.int .i64 G.nr) hlenF fun v hv => ?_
          subst hv
          simp -implicitDefEqProofs only [vqa, Nat.reduceEqDiff, Nat.reduceAdd, reduceIte, Nat.reduceLeDiff, Nat.reduceBEq, Nat.reduceLT, Nat.reduceSub, Int.reduceLT, Int.reduceLE, Int.reduceEq, Int.reduceToNat, Nat.reduceMul, eq_self, implies_true, forall_const, h1, h2, h3, m3, h6, m6, h11, m11, h18]
          refine vFor G.nr (fun i e m => e 1 = .fs G.nr fd ∧ e 2 = .fs G.nr fe ∧ e 3 = .ptr 3 V3 0 ∧ m 3 = .var V3 [.fs G.ni f0, .fs G.no f1, .fs G.nr f2, .fs G.na f3, .fs G.nk f4] ∧ e 6 = .ptr 6 V6 0 ∧ m 6 = .var V6 [.cap0, .cap0, .cap0, .cap0, .cap0] ∧ e 11 = .ptr 11 V11 0 ∧ e 18 = .fn 90 [.ptr 17 V17 0, .ptr 11 V11 0] ∧ e 142 = .int .i64 G.nr ∧ e 143 = .int .i64 i ∧ WiS G d en (G.nk + 2 * i) V11 V17 VM (.fs G.ni a0) (.fs G.no a1) xf xo m ∧ AccP [86] 129 5 G.nr (flW G d en i) xf m ∧ AccP [137] 3 1 G.nk (outP (withN G d en)) xo m) ?_ ?_ ?_
          · simp -implicitDefEqProofs only [vqa, Nat.reduceEqDiff, Nat.reduceAdd, reduceIte, Nat.reduceLeDiff, Nat.reduceBEq, Nat.reduceLT, Nat.reduceSub, Int.reduceLT, Int.reduceLE, Int.reduceEq, Int.reduceToNat, Nat.reduceMul, eq_self, implies_true, forall_const, h1, h2, h3, m3, h6, m6, h11, m11, h18]
            exact ⟨hWc, hF.to (fun j a hj h => by unfold flW; rw [if_neg (by omega)]; exact h), hO⟩
          · rintro i e m hi hi' ⟨h1, h2, h3, m3, h6, m6, h11, h18, h142, h143, hW, hF, hO⟩
            have hdi := hd i hi
            have hei := he i hi
            have hWc := hW
            obtain ⟨p, g, x3, m17, mM, hM, m11, hA⟩ := hW
            obtain ⟨ff, rf, _⟩ := hF.rs0
            obtain ⟨fo, ro, _⟩ := hO.rs0
            obtain ⟨hz, hxf⟩ | ⟨s', sv, gg, hs', hxf, hm, hg, hgn⟩ := hF
            · omega
            obtain rfl : s' = 86 := by simpa using hs'
            unfold a64_4
            simp -implicitDefEqProofs only [vqa, Nat.reduceEqDiff, Nat.reduceAdd, reduceIte, Nat.reduceLeDiff, Nat.reduceBEq, Nat.reduceLT, Nat.reduceSub, Int.reduceLT, Int.reduceLE, Int.reduceEq, Int.reduceToNat, Nat.reduceMul, eq_self, implies_true, forall_const, h1, h2, h3, m3, h6, m6, h11, m11, h18, h142, h143, hi', hdi]
            subst hxf
            refine vAnyR [0, 1, 2, 3, 4, 5, 6, 7, 8, 9, 10, 11] 11 (fun m => (∃ y, m 11 = .var V11 [.fs G.ni a0, .fs G.no a1, .sl 86 sv G.nr, y, xo]) ∧ m 86 = .row sv 129 5 G.nr gg) (by kernel_rfl) (by kernel_rfl) ⟨⟨x3, m11⟩, hm⟩ ?_
            simp -implicitDefEqProofs only [vqa, Nat.reduceEqDiff, Nat.reduceAdd, reduceIte, Nat.reduceLeDiff, Nat.reduceBEq, Nat.reduceLT, Nat.reduceSub, Int.reduceLT, Int.reduceLE, Int.reduceEq, Int.reduceToNat, Nat.reduceMul, eq_self, implies_true, forall_const, srNil, srCons, srOV, srVS, srOC, srCS, srK_at, srOE, srES, AOp.pureB, h1, h2, h3, m3, h6, m6, h11, m11, h18, h142, h143, hm, hi', hdi]
            refine ⟨fun m ⟨⟨y, hy⟩, _⟩ => by rw [hy]; exact ⟨_, rfl, rfl⟩, fun m ⟨⟨y, hy⟩, _⟩ => by rw [hy]; exact ⟨_, rfl, rfl⟩, by omega, fun m _ => ⟨_, rfl, by omega⟩, fun m _ => ⟨_, rfl, trivial⟩, ?_⟩
            refine (hWc.call gd (r0 := rfl) (r1 := rfl) (r2 := rf) (r4 := ro) (by omega) (d i) (qW_d i).symm (kd i hi)).mono fun v m' ⟨hv, hW', hK⟩ => ?_
            subst hv
            have n3 := (hK 3 (by decide) (by decide) (by decide) (by decide)).trans m3
            have n6 := (hK 6 (by decide) (by decide) (by decide) (by decide)).trans m6
            have n86 := (hK 86 (by decide) (by decide) (by decide) (by decide)).trans hm
            have hO' := hO.keep (m' := m') fun k hk => by
              obtain rfl : k = 137 := by simpa using hk
              exact hK 137 (by decide) (by decide) (by decide) (by decide)
            have hW'c := hW'
            obtain ⟨p', g', x3', q17, qM, qI, q11, qA⟩ := hW'
            have hgi := hg i hi
            unfold flW at hgi
            rw [if_neg (Nat.lt_irrefl i)] at hgi
            unfold FlopV.av at hgi
            simp -implicitDefEqProofs only [vqa, Nat.reduceEqDiff, Nat.reduceAdd, reduceIte, Nat.reduceLeDiff, Nat.reduceBEq, Nat.reduceLT, Nat.reduceSub, Int.reduceLT, Int.reduceLE, Int.reduceEq, Int.reduceToNat, Nat.reduceMul, eq_self, implies_true, forall_const, srNil, srCons, srOV, srVS, srOC, srCS, srK_at, srOE, srES, AOp.pureB, h1, h2, h3, m3, h6, m6, h11, n3, n6, h18, h142, h143, q11, n86, hgi, hei]
            refine ⟨⟨x3', rfl⟩, by omega, fun m ⟨_, hy⟩ => by rw [hy]; exact ⟨_, rfl, rfl, by omega, by omega⟩, fun m ⟨_, hy⟩ => by rw [hy]; exact ⟨_, rfl, rfl⟩, hi, ?_⟩
            generalize hg2 : (fun j => bif decide (j = i) then AV.agg [.str (G.reg i).name, .int .i64 (-1), .int .i64 (getL G.nb (tEnd G d en) (d i)), .int .i64 0, .bool (G.reg i).init] else gg j) = g2f
            generalize hmm : Mem.set 86 (.row sv 129 5 G.nr g2f) m' = mm
            have w86 : mm 86 = .row sv 129 5 G.nr g2f := by rw [← hmm, set_same]
            have wne : ∀ k, k ≠ 86 → mm k = m' k := fun k hk => by rw [← hmm, set_ne hk]
            have w11 := (wne 11 (by decide)).trans q11
            have w3 := (wne 3 (by decide)).trans n3
            have w6 := (wne 6 (by decide)).trans n6
            have hWw := hW'c.keep (m' := mm) fun k hk => wne k (by omega)
            have hOw := hO'.keep (m' := mm) fun k hk => by
              obtain rfl : k = 137 := by simpa using hk
              exact wne 137 (by decide)
            obtain ⟨fo2, ro2, _⟩ := hOw.rs0
            refine vAnyR [0, 1, 2, 3, 4, 5, 6, 7, 8, 9, 10, 11] 11 (fun m => (∃ y, m 11 = .var V11 [.fs G.ni a0, .fs G.no a1, .sl 86 sv G.nr, y, xo]) ∧ m 86 = .row sv 129 5 G.nr g2f) (by kernel_rfl) (by kernel_rfl) ⟨⟨x3', w11⟩, w86⟩ ?_
            simp -implicitDefEqProofs only [vqa, Nat.reduceEqDiff, Nat.reduceAdd, reduceIte, Nat.reduceLeDiff, Nat.reduceBEq, Nat.reduceLT, Nat.reduceSub, Int.reduceLT, Int.reduceLE, Int.reduceEq, Int.reduceToNat, Nat.reduceMul, eq_self, implies_true, forall_const, srNil, srCons, srOV, srVS, srOC, srCS, srK_at, srOE, srES, AOp.pureB, h1, h2, h3, w3, h6, w6, h11, w11, h18, h142, h143, w86, hi', hei]
            refine ⟨fun m ⟨⟨y, hy⟩, _⟩ => by rw [hy]; exact ⟨_, rfl, rfl⟩, fun m ⟨⟨y, hy⟩, _⟩ => by rw [hy]; exact ⟨_, rfl, rfl⟩, by omega, fun m _ => ⟨_, rfl, by omega⟩, fun m _ => ⟨_, rfl, trivial⟩, ?_⟩
            refine (hWw.call gd (r0 := rfl) (r1 := rfl) (r2 := show rs0 mm (.sl 86 sv G.nr) = (True, .fs G.nr g2f) by simp only [rs0, w86]) (r4 := ro2) (by omega) (en i) (qW_en i).symm (ke i hi)).mono fun v m5 ⟨hv, hW5, hK5⟩ => ?_
            subst hv
            have u3 := (hK5 3 (by decide) (by decide) (by decide) (by decide)).trans w3
            have u6 := (hK5 6 (by decide) (by decide) (by decide) (by decide)).trans w6
            have u86 := (hK5 86 (by decide) (by decide) (by decide) (by decide)).trans w86
            have hO5 := hOw.keep (m' := m5) fun k hk => by
              obtain rfl : k = 137 := by simpa using hk
              exact hK5 137 (by decide) (by decide) (by decide) (by decide)
            have hW5c := hW5
            obtain ⟨p5, g5, x5, r17, rM, rI, r11, rA⟩ := hW5
            have hg2i : g2f i = .agg [.str (G.reg i).name, .int .i64 (-1), .int .i64 (getL G.nb (tEnd G d en) (d i)), .int .i64 0, .bool (G.reg i).init] := by rw [← hg2]; simp
            simp -implicitDefEqProofs only [vqa, Nat.reduceEqDiff, Nat.reduceAdd, reduceIte, Nat.reduceLeDiff, Nat.reduceBEq, Nat.reduceLT, Nat.reduceSub, Int.reduceLT, Int.reduceLE, Int.reduceEq, Int.reduceToNat, Nat.reduceMul, eq_self, implies_true, forall_const, srNil, srCons, srOV, srVS, srOC, srCS, srK_at, srOE, srES, AOp.pureB, h1, h2, h3, u3, h6, u6, h11, h18, h142, h143, r11, u86, hg2i]
            refine ⟨⟨x5, rfl⟩, by omega, fun m ⟨_, hy⟩ => by rw [hy]; exact ⟨_, rfl, rfl, by omega, by omega⟩, fun m ⟨_, hy⟩ => by rw [hy]; exact ⟨_, rfl, rfl⟩, hi, hi, wI (by omega) (by omega), hW5c.keep (fun k hk => by rw [set_ne (by omega)]), ?_, hO5.put (by simp)⟩
            refine .inr ⟨86, sv, _, by simp, rfl, set_same _ _ _, fun j hj => ?_, hgn⟩
            unfold flW
            by_cases ej : j = i
            · subst ej
              simp only [decide_true, cond_true]
              rw [if_pos (by omega)]
              rfl
            · simp only [ej, decide_false, cond_false]
              rw [← hg2]
              simp only [ej, decide_false, cond_false]
              have := hg j hj
              unfold flW at this
              rw [this]
              by_cases hji : j < i
              · rw [if_pos hji, if_pos (by omega)]
              · rw [if_neg hji, if_neg (by omega)]
          · rintro e m ⟨h1, h2, h3, m3, h6, m6, h11, h18, h142, h143, hW, hF, hO⟩
            obtain ⟨p, g, x3, m17, mM, hM, m11, hA⟩ := hW
            have eE : tW G d en (G.nk + 2 * G.nr) = tEnd G d en := rfl
            rw [eE] at hA
            have hF1 : AccP [86] 129 5 G.nr (flopP (withN G d en)) xf m := hF.to fun j a hj h => by
              unfold flW at h; rw [if_pos hj] at h; exact h
            obtain ⟨ff, rf, gf⟩ := hF1.rs0
            obtain ⟨fo, ro, go⟩ := hO.rs0
            obtain ⟨fg, rg, gg⟩ := hA.rs0
            have hNet : ∀ (fa fb fc : Nat → AV), (∀ i, i < G.nr → flopP (withN G d en) i (fa i)) → (∀ i, i < G.na + (tEnd G d en).length → gateP G (tEnd G d en) i (fb i)) → (∀ i, i < G.nk → outP (withN G d en) i (fc i)) → NetC [.fs G.ni a0, .fs G.no a1, .fs G.nr fa, .fs (G.na + (tEnd G d en).length) fb, .fs G.nk fc] (withN G d en) := fun fa fb fc ha hb hc => ⟨a0, a1, fa, fb, fc, rfl, fun i hi => by rw [k0 i hi]; exact g0 i hi, fun i hi => by rw [k1 i hi]; exact g1 i hi, ha, hb, hc⟩
            have hok : (withN G d en).Ok := withN_ok gd ok kd ke
            unfold a64_4
            simp -implicitDefEqProofs only [vqa, Nat.reduceEqDiff, Nat.reduceAdd, reduceIte, Nat.reduceLeDiff, Nat.reduceBEq, Nat.reduceLT, Nat.reduceSub, Int.reduceLT, Int.reduceLE, Int.reduceEq, Int.reduceToNat, Nat.reduceMul, eq_self, implies_true, forall_const, h1, h2, h3, m3, h6, m6, h11, m11, h18, h142, h143]
            refine CallW.sc (p92 (hNet ff fg fo gf gg go) hok) ?_ ?_ fun r hr => ⟨by subst hr; rfl, ?_⟩
            · simp only [rsC, rs2, rf, ro, rg]; rfl
            · simp only [rsC, rs2, rf, ro, rg]; exact ⟨⟨trivial, trivial, trivial, trivial, trivial, trivial⟩, trivial⟩
            subst hr
            simp -implicitDefEqProofs only [vqa, Nat.reduceEqDiff, Nat.reduceAdd, reduceIte, Nat.reduceLeDiff, Nat.reduceBEq, Nat.reduceLT, Nat.reduceSub, Int.reduceLT, Int.reduceLE, Int.reduceEq, Int.reduceToNat, Nat.reduceMul, eq_self, implies_true, forall_const, h1, h2, h3, m3, h6, m6, h11, m11]
            refine ⟨fun hne => err _ _ _ _ _ _ hwN hne, fun hne => ?_⟩
            have hz : formF (withN G d en) = 0 := by simpa using hne
            rw [hwN, hz]
            have fin : ∀ (fa fb fc : Nat → AV), (∀ i, i < G.nr → flopP (withN G d en) i (fa i)) → (∀ i, i < G.na + (tEnd G d en).length → gateP G (tEnd G d en) i (fb i)) → (∀ i, i < G.nk → outP (withN G d en) i (fc i)) → ∃ ds, AV.tup [.agg [.fs G.ni a0, .fs G.no a1, .fs G.nr fa, .fs (G.na + (tEnd G d en).length) fb, .fs G.nk fc], .int .i64 0] = .tup [.agg ds, .int .i64 0] ∧ ((0 : Int) ≠ 0 → ∃ a0 a1 a2 a3 a4, ds = [.fs 0 a0, .fs 0 a1, .fs 0 a2, .fs 0 a3, .fs 0 a4]) ∧ NetC ds (withN G d en) := fun fa fb fc ha hb hc => ⟨_, rfl, fun e => absurd rfl e, hNet fa fb fc ha hb hc⟩
            have z1 : sh G ≠ 6 := by omega
            have z2 : sh G ≠ 86 := by omega
            have z3 : sh G ≠ 137 := by omega
            obtain ⟨e1, e2⟩ | ⟨aa, av, ag, aa', e2, am, ag', an⟩ := hO
            all_goals obtain ⟨c1, c2⟩ | ⟨cs, cv, cg, cs', c2, cm, cg', cn⟩ := hF1
            all_goals obtain ⟨d1, d2⟩ | ⟨ds, dv, dg, ds', d2, dm, dg', dn⟩ := hA
            all_goals subst e2
            all_goals subst c2
            all_goals subst d2
            · simp -implicitDefEqProofs only [vqa, Nat.reduceEqDiff, Nat.reduceAdd, reduceIte, Nat.reduceLeDiff, Nat.reduceBEq, Nat.reduceLT, Nat.reduceSub, Int.reduceLT, Int.reduceLE, Int.reduceEq, Int.reduceToNat, Nat.reduceMul, eq_self, implies_true, forall_const, AV.isCell, h1, h2, h3, m3, h6, m6, h11, m11, z1, z2, z3, Ne.symm z1, Ne.symm z2, Ne.symm z3]
              have := fin (fun _ => .undef) (fun _ => .undef) (fun _ => .undef) (fun i hi => by omega) (fun i hi => by omega) (fun i hi => by omega)
              rw [d1] at this
              rw [c1] at this
              rw [e1] at this
              exact this
            · obtain rfl : ds = sh G := by simpa using ds'
              simp -implicitDefEqProofs only [vqa, Nat.reduceEqDiff, Nat.reduceAdd, reduceIte, Nat.reduceLeDiff, Nat.reduceBEq, Nat.reduceLT, Nat.reduceSub, Int.reduceLT, Int.reduceLE, Int.reduceEq, Int.reduceToNat, Nat.reduceMul, eq_self, implies_true, forall_const, AV.isCell, h1, h2, h3, m3, h6, m6, h11, m11, z1, z2, z3, Ne.symm z1, Ne.symm z2, Ne.symm z3, dm]
              have := fin (fun _ => .undef) dg (fun _ => .undef) (fun i hi => by omega) dg' (fun i hi => by omega)
              rw [c1] at this
              rw [e1] at this
              exact this
            · obtain rfl : cs = 86 := by simpa using cs'
              simp -implicitDefEqProofs only [vqa, Nat.reduceEqDiff, Nat.reduceAdd, reduceIte, Nat.reduceLeDiff, Nat.reduceBEq, Nat.reduceLT, Nat.reduceSub, Int.reduceLT, Int.reduceLE, Int.reduceEq, Int.reduceToNat, Nat.reduceMul, eq_self, implies_true, forall_const, AV.isCell, h1, h2, h3, m3, h6, m6, h11, m11, z1, z2, z3, Ne.symm z1, Ne.symm z2, Ne.symm z3, cm]
              have := fin cg (fun _ => .undef) (fun _ => .undef) cg' (fun i hi => by omega) (fun i hi => by omega)
              rw [d1] at this
              rw [e1] at this
              exact this
            · obtain rfl : cs = 86 := by simpa using cs'
              obtain rfl : ds = sh G := by simpa using ds'
              simp -implicitDefEqProofs only [vqa, Nat.reduceEqDiff, Nat.reduceAdd, reduceIte, Nat.reduceLeDiff, Nat.reduceBEq, Nat.reduceLT, Nat.reduceSub, Int.reduceLT, Int.reduceLE, Int.reduceEq, Int.reduceToNat, Nat.reduceMul, eq_self, implies_true, forall_const, AV.isCell, h1, h2, h3, m3, h6, m6, h11, m11, z1, z2, z3, Ne.symm z1, Ne.symm z2, Ne.symm z3, cm, dm]
              have := fin cg dg (fun _ => .undef) cg' dg' (fun i hi => by omega)
              rw [e1] at this
              exact this
            · obtain rfl : aa = 137 := by simpa using aa'
              simp -implicitDefEqProofs only [vqa, Nat.reduceEqDiff, Nat.reduceAdd, reduceIte, Nat.reduceLeDiff, Nat.reduceBEq, Nat.reduceLT, Nat.reduceSub, Int.reduceLT, Int.reduceLE, Int.reduceEq, Int.reduceToNat, Nat.reduceMul, eq_self, implies_true, forall_const, AV.isCell, h1, h2, h3, m3, h6, m6, h11, m11, z1, z2, z3, Ne.symm z1, Ne.symm z2, Ne.symm z3, am]
              have := fin (fun _ => .undef) (fun _ => .undef) ag (fun i hi => by omega) (fun i hi => by omega) ag'
              rw [d1] at this
              rw [c1] at this
              exact this
            · obtain rfl : aa = 137 := by simpa using aa'
              obtain rfl : ds = sh G := by simpa using ds'
              simp -implicitDefEqProofs only [vqa, Nat.reduceEqDiff, Nat.reduceAdd, reduceIte, Nat.reduceLeDiff, Nat.reduceBEq, Nat.reduceLT, Nat.reduceSub, Int.reduceLT, Int.reduceLE, Int.reduceEq, Int.reduceToNat, Nat.reduceMul, eq_self, implies_true, forall_const, AV.isCell, h1, h2, h3, m3, h6, m6, h11, m11, z1, z2, z3, Ne.symm z1, Ne.symm z2, Ne.symm z3, am, dm]
              have := fin (fun _ => .undef) dg ag (fun i hi => by omega) dg' ag'
              rw [c1] at this
              exact this
            · obtain rfl : aa = 137 := by simpa using aa'
              obtain rfl : cs = 86 := by simpa using cs'
              simp -implicitDefEqProofs only [vqa, Nat.reduceEqDiff, Nat.reduceAdd, reduceIte, Nat.reduceLeDiff, Nat.reduceBEq, Nat.reduceLT, Nat.reduceSub, Int.reduceLT, Int.reduceLE, Int.reduceEq, Int.reduceToNat, Nat.reduceMul, eq_self, implies_true, forall_const, AV.isCell, h1, h2, h3, m3, h6, m6, h11, m11, z1, z2, z3, Ne.symm z1, Ne.symm z2, Ne.symm z3, am, cm]
              have := fin cg (fun _ => .undef) ag cg' (fun i hi => by omega) ag'
              rw [d1] at this
              exact this
            · obtain rfl : aa = 137 := by simpa using aa'
              obtain rfl : cs = 86 := by simpa using cs'
              obtain rfl : ds = sh G := by simpa using ds'
              simp -implicitDefEqProofs only [vqa, Nat.reduceEqDiff, Nat.reduceAdd, reduceIte, Nat.reduceLeDiff, Nat.reduceBEq, Nat.reduceLT, Nat.reduceSub, Int.reduceLT, Int.reduceLE, Int.reduceEq, Int.reduceToNat, Nat.reduceMul, eq_self, implies_true, forall_const, AV.isCell, h1, h2, h3, m3, h6, m6, h11, m11, z1, z2, z3, Ne.symm z1, Ne.symm z2, Ne.symm z3, am, cm, dm]
              have := fin cg dg ag cg' dg' ag'
              exact this
end Go.Ab
