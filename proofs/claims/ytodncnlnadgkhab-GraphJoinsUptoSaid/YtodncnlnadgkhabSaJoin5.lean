/- Walks: Beside, its whole. -/
import Derived.Test.YtodncnlnadgkhabSaJoin4
set_option linter.unusedSimpArgs false
set_option linter.unusedVariables false
namespace Go.Ab
open Go
def a67_0 : AC := (.seq (.ops [⟨(some 31), none, (.v (.bin .lss (.t 30) (.t 29)))⟩]) (.seq (.cond (.t 31) .skip (.exit 0)) (.seq (.block 1 (.seq (.ops [⟨(some 32), none, (.v (.idx 1 (.t 28) (.t 30)))⟩, ⟨(some 33), none, (.v (.load 1 false (.t 32)))⟩, ⟨(some 8), none, (.v (.mv (.t 33)))⟩]) (.seq (.ops [⟨(some 34), none, (.v (.load 1 false (.t 6)))⟩, ⟨(some 35), none, (.v (.mv (.t 8)))⟩, ⟨(some 36), none, (.call (.c (.fn 71 [])) [(.t 34), (.t 35)])⟩, ⟨(some 37), none, (.v (.not (.t 36)))⟩]) (.cond (.t 37) (.ops [⟨(some 38), none, (.v (.load 1 false (.t 6)))⟩, ⟨(some 39), none, (.v (.mv (.t 8)))⟩, ⟨(some 40), none, (.e (.lit 40 9 1 1 [(.str ⟨#[]⟩)] [(0, (.t 39))]))⟩, ⟨(some 41), none, (.e (.app 41 9 1 16 (.t 38) (.t 40)))⟩, ⟨none, none, (.e (.store 1 (.t 6) (.t 41)))⟩]) .skip)))) (.ops [⟨(some 42), none, (.v (.bin .add (.t 30) (.c (.int .i64 1))))⟩, ⟨(some 30), none, (.v (.mv (.t 42)))⟩]))))
def a67_2 : AC := (.seq (.ops [⟨(some 90), none, (.v (.bin .lss (.t 89) (.t 88)))⟩]) (.seq (.cond (.t 90) .skip (.exit 4)) (.seq (.block 5 (.seq (.ops [⟨(some 91), none, (.v (.idx 3 (.t 87) (.t 89)))⟩, ⟨(some 92), none, (.v (.load 3 true (.t 91)))⟩, ⟨(some 17), none, (.e (.alloc 17 [(.str ⟨#[]⟩), (.int .i64 0), (.bool false)]))⟩, ⟨none, none, (.e (.store 3 (.t 17) (.t 92)))⟩]) (.any [⟨(some 93), none, (.v (.fld 2 (.t 9)))⟩, ⟨(some 94), none, (.v (.load 1 false (.t 93)))⟩, ⟨(some 95), none, (.v (.fld 0 (.t 17)))⟩, ⟨(some 96), none, (.v (.load 1 false (.t 95)))⟩, ⟨(some 97), none, (.v (.fld 2 (.t 17)))⟩, ⟨(some 98), none, (.v (.load 1 false (.t 97)))⟩, ⟨(some 99), none, (.v (.mv (.t 15)))⟩, ⟨(some 100), none, (.v (.fld 1 (.t 17)))⟩, ⟨(some 101), none, (.v (.load 1 false (.t 100)))⟩, ⟨(some 102), none, (.call (.t 99) [(.t 101)])⟩, ⟨(some 103), none, (.v (.build [(.str ⟨#[]⟩), (.int .i64 0), (.bool false)] [(0, (1, (.t 96))), (2, (1, (.t 98))), (1, (1, (.t 102)))]))⟩, ⟨(some 104), none, (.e (.lit 104 49 3 1 [(.str ⟨#[]⟩), (.int .i64 0), (.bool false)] [(0, (.t 103))]))⟩, ⟨(some 105), none, (.e (.app 105 49 3 32 (.t 94) (.t 104)))⟩, ⟨(some 106), none, (.v (.fld 2 (.t 9)))⟩, ⟨none, none, (.e (.store 1 (.t 106) (.t 105)))⟩] [[], [0], [], [2], [], [4], [], [], [7], [6, 8], [3, 5, 9], [10], [1, 11, 9], [0, 1, 2, 3, 4, 5, 6, 7, 8, 9, 10, 11, 12], [13, 12, 12, 0, 1, 2, 3, 4, 5, 6, 7, 8, 9, 10, 11, 12]]))) (.ops [⟨(some 107), none, (.v (.bin .add (.t 89) (.c (.int .i64 1))))⟩, ⟨(some 89), none, (.v (.mv (.t 107)))⟩]))))
def a67_3 : AC := (.seq (.ops [⟨(some 112), none, (.v (.bin .lss (.t 111) (.t 110)))⟩]) (.seq (.cond (.t 112) .skip (.exit 6)) (.seq (.block 7 (.seq (.ops [⟨(some 113), none, (.v (.idx 2 (.t 109) (.t 111)))⟩, ⟨(some 114), none, (.v (.load 2 true (.t 113)))⟩, ⟨(some 19), none, (.e (.alloc 19 [(.int .i64 0), (.int .i64 0)]))⟩, ⟨none, none, (.e (.store 2 (.t 19) (.t 114)))⟩]) (.any [⟨(some 115), none, (.v (.fld 3 (.t 9)))⟩, ⟨(some 116), none, (.v (.load 1 false (.t 115)))⟩, ⟨(some 117), none, (.v (.mv (.t 15)))⟩, ⟨(some 118), none, (.v (.fld 0 (.t 19)))⟩, ⟨(some 119), none, (.v (.load 1 false (.t 118)))⟩, ⟨(some 120), none, (.call (.t 117) [(.t 119)])⟩, ⟨(some 121), none, (.v (.mv (.t 15)))⟩, ⟨(some 122), none, (.v (.fld 1 (.t 19)))⟩, ⟨(some 123), none, (.v (.load 1 false (.t 122)))⟩, ⟨(some 124), none, (.call (.t 121) [(.t 123)])⟩, ⟨(some 125), none, (.v (.build [(.int .i64 0), (.int .i64 0)] [(0, (1, (.t 120))), (1, (1, (.t 124)))]))⟩, ⟨(some 126), none, (.e (.lit 126 110 2 1 [(.int .i64 0), (.int .i64 0)] [(0, (.t 125))]))⟩, ⟨(some 127), none, (.e (.app 127 110 2 16 (.t 116) (.t 126)))⟩, ⟨(some 128), none, (.v (.fld 3 (.t 9)))⟩, ⟨none, none, (.e (.store 1 (.t 128) (.t 127)))⟩] [[], [0], [], [], [3], [2, 4], [], [], [7], [6, 8, 5], [5, 9], [10], [1, 11, 9], [0, 1, 2, 3, 4, 5, 6, 7, 8, 9, 10, 11, 12], [13, 12, 12, 0, 1, 2, 3, 4, 5, 6, 7, 8, 9, 10, 11, 12]]))) (.ops [⟨(some 129), none, (.v (.bin .add (.t 111) (.c (.int .i64 1))))⟩, ⟨(some 111), none, (.v (.mv (.t 129)))⟩]))))
def a67_4 : AC := (.seq (.ops [⟨(some 134), none, (.v (.bin .lss (.t 133) (.t 132)))⟩]) (.seq (.cond (.t 134) .skip (.exit 8)) (.seq (.block 9 (.seq (.ops [⟨(some 135), none, (.v (.idx 1 (.t 131) (.t 133)))⟩, ⟨(some 136), none, (.v (.load 1 false (.t 135)))⟩, ⟨(some 21), none, (.v (.mv (.t 136)))⟩]) (.any [⟨(some 137), none, (.v (.fld 4 (.t 9)))⟩, ⟨(some 138), none, (.v (.load 1 false (.t 137)))⟩, ⟨(some 139), none, (.v (.mv (.t 15)))⟩, ⟨(some 140), none, (.v (.mv (.t 21)))⟩, ⟨(some 141), none, (.call (.t 139) [(.t 140)])⟩, ⟨(some 142), none, (.e (.lit 142 28 1 1 [(.int .i64 0)] [(0, (.t 141))]))⟩, ⟨(some 143), none, (.e (.app 143 28 1 8 (.t 138) (.t 142)))⟩, ⟨(some 144), none, (.v (.fld 4 (.t 9)))⟩, ⟨none, none, (.e (.store 1 (.t 144) (.t 143)))⟩] [[], [0], [], [], [2, 3], [4], [1, 5, 4], [0, 1, 2, 3, 4, 5, 6], [7, 6, 6, 0, 1, 2, 3, 4, 5, 6]]))) (.ops [⟨(some 145), none, (.v (.bin .add (.t 133) (.c (.int .i64 1))))⟩, ⟨(some 133), none, (.v (.mv (.t 145)))⟩]))))
def a67_1 : AC := (.seq (.ops [⟨(some 69), none, (.v (.bin .lss (.t 68) (.t 67)))⟩]) (.seq (.cond (.t 69) .skip (.exit 2)) (.seq (.block 3 (.seq (.ops [⟨(some 70), none, (.v (.mv (.t 68)))⟩, ⟨(some 71), none, (.v (.idx 5 (.t 66) (.t 68)))⟩, ⟨(some 72), none, (.v (.load 5 true (.t 71)))⟩, ⟨(some 14), none, (.e (.alloc 14 [.cap0, .cap0, .cap0, .cap0, .cap0]))⟩, ⟨(some 13), none, (.v (.mv (.t 70)))⟩, ⟨none, none, (.e (.store 5 (.t 14) (.t 72)))⟩]) (.seq (.ops [⟨(some 73), none, (.v (.mv (.t 12)))⟩, ⟨(some 74), none, (.v (.load 5 true (.t 14)))⟩, ⟨(some 75), none, (.v (.mv (.t 13)))⟩, ⟨(some 76), none, (.v (.fld 2 (.t 2)))⟩, ⟨(some 77), none, (.v (.load 1 false (.t 76)))⟩, ⟨(some 78), none, (.v (.len (.t 77)))⟩, ⟨(some 79), none, (.v (.bin .mul (.t 75) (.t 78)))⟩, ⟨(some 80), none, (.v (.mv (.t 13)))⟩, ⟨(some 81), none, (.v (.fld 3 (.t 2)))⟩, ⟨(some 82), none, (.v (.load 1 false (.t 81)))⟩, ⟨(some 83), none, (.v (.len (.t 82)))⟩, ⟨(some 84), none, (.v (.bin .mul (.t 80) (.t 83)))⟩, ⟨(some 85), none, (.call (.t 73) [(.t 74), (.t 79), (.t 84)])⟩, ⟨(some 15), none, (.v (.mv (.t 85)))⟩]) (.seq (.seq (.ops [⟨(some 86), none, (.v (.fld 2 (.t 14)))⟩, ⟨(some 87), none, (.v (.load 1 false (.t 86)))⟩, ⟨(some 88), none, (.v (.len (.t 87)))⟩, ⟨(some 89), none, (.v (.mv (.c (.int .i64 0))))⟩]) (.block 4 (.loop a67_2))) (.seq (.seq (.ops [⟨(some 108), none, (.v (.fld 3 (.t 14)))⟩, ⟨(some 109), none, (.v (.load 1 false (.t 108)))⟩, ⟨(some 110), none, (.v (.len (.t 109)))⟩, ⟨(some 111), none, (.v (.mv (.c (.int .i64 0))))⟩]) (.block 6 (.loop a67_3))) (.seq (.ops [⟨(some 130), none, (.v (.fld 4 (.t 14)))⟩, ⟨(some 131), none, (.v (.load 1 false (.t 130)))⟩, ⟨(some 132), none, (.v (.len (.t 131)))⟩, ⟨(some 133), none, (.v (.mv (.c (.int .i64 0))))⟩]) (.block 8 (.loop a67_4)))))))) (.ops [⟨(some 146), none, (.v (.bin .add (.t 68) (.c (.int .i64 1))))⟩, ⟨(some 68), none, (.v (.mv (.t 146)))⟩]))))
def a67 : AC := (.seq (.ops [⟨(some 2), none, (.e (.box 2 0 (.t 0)))⟩, ⟨(some 3), none, (.e (.box 3 0 (.t 1)))⟩, ⟨(some 4), none, (.e (.alloc 4 [.cap0, .cap0, .cap0, .cap0, .cap0]))⟩, ⟨(some 5), none, (.v (.mv (.c (.int .i64 0))))⟩]) (.seq (.ops [⟨(some 23), none, (.e (.lit 23 9 1 0 [(.str ⟨#[]⟩)] []))⟩, ⟨(some 24), none, (.v (.fld 0 (.t 2)))⟩, ⟨(some 25), none, (.v (.load 1 false (.t 24)))⟩, ⟨(some 26), none, (.e (.app 26 9 1 16 (.t 23) (.t 25)))⟩, ⟨(some 6), none, (.e (.alloc 6 [.cap0]))⟩, ⟨none, none, (.e (.store 1 (.t 6) (.t 26)))⟩]) (.seq (.seq (.ops [⟨(some 27), none, (.v (.fld 0 (.t 3)))⟩, ⟨(some 28), none, (.v (.load 1 false (.t 27)))⟩, ⟨(some 29), none, (.v (.len (.t 28)))⟩, ⟨(some 30), none, (.v (.mv (.c (.int .i64 0))))⟩]) (.block 0 (.loop a67_0))) (.seq (.any [⟨(some 43), none, (.v (.load 1 false (.t 6)))⟩, ⟨(some 44), none, (.v (.fld 1 (.t 2)))⟩, ⟨(some 45), none, (.v (.load 1 false (.t 44)))⟩, ⟨(some 46), none, (.v (.fld 1 (.t 3)))⟩, ⟨(some 47), none, (.v (.load 1 false (.t 46)))⟩, ⟨(some 48), none, (.e (.lit 48 22 1 2 [.cap0] [(0, (.t 45)), (1, (.t 47))]))⟩, ⟨(some 49), none, (.call (.c (.fn 99 [])) [(.t 48)])⟩, ⟨(some 50), none, (.v (.build [.cap0, .cap0, .cap0, .cap0, .cap0] [(0, (1, (.t 43))), (1, (1, (.t 49)))]))⟩, ⟨(some 9), none, (.e (.alloc 9 [.cap0, .cap0, .cap0, .cap0, .cap0]))⟩, ⟨none, none, (.e (.store 5 (.t 9) (.t 50)))⟩] [[], [], [1], [], [3], [2, 4], [5], [0, 6], [], [8, 7, 6, 0, 1, 2, 3, 4, 5, 6, 7, 8]]) (.seq (.ops [⟨(some 51), none, (.v (.load 1 false (.t 6)))⟩, ⟨(some 52), none, (.v (.len (.t 51)))⟩, ⟨(some 53), none, (.v (.bin .add (.c (.int .i64 1)) (.t 52)))⟩, ⟨(some 10), none, (.e (.alloc 10 [(.int .i64 0)]))⟩, ⟨none, none, (.e (.store 1 (.t 10) (.t 53)))⟩]) (.seq (.ops [⟨(some 54), none, (.v (.load 1 false (.t 10)))⟩, ⟨(some 55), none, (.v (.fld 2 (.t 2)))⟩, ⟨(some 56), none, (.v (.load 1 false (.t 55)))⟩, ⟨(some 57), none, (.v (.len (.t 56)))⟩, ⟨(some 58), none, (.v (.bin .add (.t 54) (.t 57)))⟩, ⟨(some 59), none, (.v (.fld 2 (.t 3)))⟩, ⟨(some 60), none, (.v (.load 1 false (.t 59)))⟩, ⟨(some 61), none, (.v (.len (.t 60)))⟩, ⟨(some 62), none, (.v (.bin .add (.t 58) (.t 61)))⟩, ⟨(some 11), none, (.e (.alloc 11 [(.int .i64 0)]))⟩, ⟨none, none, (.e (.store 1 (.t 11) (.t 62)))⟩]) (.seq (.ops [⟨(some 63), none, (.v (.mkfn 100 [(.t 11), (.t 10), (.t 6)]))⟩, ⟨(some 12), none, (.v (.mv (.t 63)))⟩]) (.seq (.seq (.ops [⟨(some 64), none, (.v (.load 5 true (.t 2)))⟩, ⟨(some 65), none, (.v (.load 5 true (.t 3)))⟩, ⟨(some 66), none, (.e (.lit 66 33 5 2 [.cap0, .cap0, .cap0, .cap0, .cap0] [(0, (.t 64)), (1, (.t 65))]))⟩, ⟨(some 67), none, (.v (.len (.t 66)))⟩, ⟨(some 68), none, (.v (.mv (.c (.int .i64 0))))⟩]) (.block 2 (.loop a67_1))) (.seq (.seq (.ops [⟨(some 147), none, (.v (.load 5 true (.t 9)))⟩, ⟨(some 148), none, (.call (.c (.fn 30 [])) [(.t 147)])⟩, ⟨(some 22), none, (.v (.mv (.t 148)))⟩]) (.seq (.ops [⟨(some 149), none, (.v (.mv (.t 22)))⟩, ⟨(some 150), none, (.v (.bin .neq (.t 149) (.c (.int .i64 0))))⟩]) (.cond (.t 150) (.seq (.ops [⟨(some 151), none, (.v (.build [.cap0, .cap0, .cap0, .cap0, .cap0] []))⟩, ⟨(some 152), none, (.v (.mv (.t 22)))⟩, ⟨none, none, (.e (.store 5 (.t 4) (.t 151)))⟩, ⟨(some 5), none, (.v (.mv (.t 152)))⟩]) .ret) .skip))) (.seq (.ops [⟨(some 153), none, (.v (.load 5 true (.t 9)))⟩, ⟨none, none, (.e (.store 5 (.t 4) (.t 153)))⟩, ⟨(some 5), none, (.v (.mv (.c (.int .i64 0))))⟩]) .ret))))))))))
def r67 : List AI := [(.load 5 true (.t 4)), (.mv (.t 5))]
theorem f67 : Fn PP 67 2 a67 r67 := Fn.of (fn := Go.Proofs.Try.f67) (by kernel_rfl) (by kernel_rfl) (by kernel_rfl)
/-- The row of the inputs, in its place. -/
def InV (T : List ByteArray) (V6 : Nat) (m : Mem) : Prop := ∃ ver g, m 6 = .var V6 [.sl 23 ver T.length] ∧ m 23 = .row ver 9 1 T.length g ∧ ∀ k, k < T.length → g k = .str (nmA T k)

/-- What the function of literals reads. -/
def MvS (T : List ByteArray) (V6 ver : Nat) (g : Nat → AV) (W6 W7 W8 V10 V11 c rr xx : Nat) (cc : List AV) (m : Mem) : Prop :=
  m 1006 = .var W6 cc ∧ m 11 = .var V11 [.int .i64 (1 + T.length + c : Nat)] ∧ m 1008 = .var W8 [.int .i64 xx] ∧ m 10 = .var V10 [.int .i64 (1 + T.length : Nat)] ∧ m 1007 = .var W7 [.int .i64 rr] ∧ m 6 = .var V6 [.sl 23 ver T.length] ∧ m 23 = .row ver 9 1 T.length g
theorem MvS.put {T : List ByteArray} {V6 ver : Nat} {g : Nat → AV} {W6 W7 W8 V10 V11 c rr xx : Nat} {cc : List AV} {m : Mem} {k : Nat} {o : AO} (h : MvS T V6 ver g W6 W7 W8 V10 V11 c rr xx cc m) (hk : k ∉ [1006, 11, 1008, 10, 1007, 6, 23]) : MvS T V6 ver g W6 W7 W8 V10 V11 c rr xx cc (Mem.set k o m) := by
  have hk' : ∀ i, i ∈ [1006, 11, 1008, 10, 1007, 6, 23] → Mem.set k o m i = m i := fun i hi => set_ne (fun e => by subst e; exact hk hi) _ _
  unfold MvS
  rw [hk' 1006 (by decide), hk' 11 (by decide), hk' 1008 (by decide), hk' 10 (by decide), hk' 1007 (by decide), hk' 6 (by decide), hk' 23 (by decide)]
  exact h
theorem MvS.call {T : List ByteArray} {V6 ver : Nat} {g : Nat → AV} {W6 W7 W8 V10 V11 c rr xx : Nat} {cc : List AV} {m : Mem} (h : MvS T V6 ver g W6 W7 W8 V10 V11 c rr xx cc m) {q : Gra} (hq : GraC cc q) (gd : q.Good) (hT : T.length ≤ 256) (hc : c ≤ 576) (hr : rr ≤ 288) (hx : xx ≤ 4000) (hin : ∀ i, i < q.ni → q.inn i ∈ T) (hnm : ∀ k, k < T.length → g k = .str (nmA T k)) (l : Int) (hl : litOk q.nodes l) :
    CallW PP 101 [.int .i64 l, .ptr 1006 W6 0, .ptr 11 V11 0, .ptr 1008 W8 0, .ptr 10 V10 0, .ptr 1007 W7 0, .ptr 6 V6 0] m fun r m' => r = .int .i64 (jL (jN T c q rr xx) l) ∧ m' = m :=
  p101 hq gd hT hc hr hx hin h.1 h.2.1 h.2.2.1 h.2.2.2.1 h.2.2.2.2.1 h.2.2.2.2.2.1 h.2.2.2.2.2.2 hnm l hl
/-- What stays all along. -/
def BaS (V2 V4 V66 : Nat) (c2 c4 : List AV) (fr : Nat → AV) (m : Mem) : Prop := m 2 = .var V2 c2 ∧ m 4 = .var V4 c4 ∧ m 66 = .row V66 33 5 2 fr
theorem BaS.put {V2 V4 V66 : Nat} {c2 c4 : List AV} {fr : Nat → AV} {m : Mem} {k : Nat} {o : AO} (h : BaS V2 V4 V66 c2 c4 fr m) (hk : k ∉ [2, 4, 66]) : BaS V2 V4 V66 c2 c4 fr (Mem.set k o m) := by
  have hk' : ∀ i, i ∈ [2, 4, 66] → Mem.set k o m i = m i := fun i hi => set_ne (fun e => by subst e; exact hk hi) _ _
  unfold BaS
  rw [hk' 2 (by decide), hk' 4 (by decide), hk' 66 (by decide)]
  exact h
/-- How far the graph has come. -/
def BsS (V9 : Nat) (x0 x1 : AV) (p2 p3 p4 : Nat → AV → Prop) (n2 n3 n4 : Nat) (m : Mem) : Prop :=
  ∃ y2 y3 y4, m 9 = .var V9 [x0, x1, y2, y3, y4] ∧ AccP [105] 49 3 n2 p2 y2 m ∧ AccP [127] 110 2 n3 p3 y3 m ∧ AccP [143] 28 1 n4 p4 y4 m
/-- The graph that is taken in turn i, and what lies in front of its part. -/
def gI (G H : Gra) (i : Nat) : Gra := if i = 0 then G else H
def cI (a b i : Nat) : Nat := if i = 0 then 0 else if i = 1 then a else a + b

set_option maxHeartbeats 8000000 in
theorem p67 {G H : Gra} {cs ds : List AV} (hG : GraC cs G) (ok : G.Ok) (hH : GraC ds H) (kk : H.Ok) (z1 : graphF G = 0) (z2 : graphF H = 0) : Pure PP 67 [.agg cs, .agg ds] fun r => ∃ es, r = .tup [.agg es, .int .i64 (joinF G H)] ∧ GraC es (joinRes G H) := by
  have hG0 := hG
  have hH0 := hH
  obtain ⟨f0, f1, f2, f3, f4, rfl, g0, g1, g2, g3, g4⟩ := hG
  obtain ⟨h0, h1, h2, h3, h4, rfl, k0, k1, k2, k3, k4⟩ := hH
  have eF : joinF G H = graphF (joinG G H) := by unfold joinF; rw [if_neg (by simpa using z1), if_neg (by simpa using z2)]
  have gd := good_of z1; have gh := good_of z2
  have b1 := gd.ni; have b2 := gd.nr; have b3 := gd.na; have b4 := gh.ni; have b5 := gh.nr; have b6 := gh.na; have b7 := gd.no; have b8 := gh.no; have b9 := gd.nk; have b10 := gh.nk
  have jok := joinG_ok z1 z2 ok kk
  have hlT := joinT_len G H
  refine Fn.pure fmix f67 ?_
  unfold a67 r67
  simp -implicitDefEqProofs only [vqa, Nat.reduceEqDiff, Nat.reduceAdd, reduceIte, Nat.reduceLeDiff, Nat.reduceBEq, Nat.reduceLT, Nat.reduceSub, Int.reduceLT, Int.reduceLE, Int.reduceEq, Int.reduceToNat, Nat.reduceMul, eq_self, implies_true, forall_const]
  generalize (mem0 2).ver + 1 = V2
  generalize (mem0 3).ver + 1 = V3
  generalize (mem0 4).ver + 1 = V4
  generalize (mem0 6).ver + 1 = V6
  refine ⟨⟨fun i hi => by rw [g0 i hi]; exact ⟨rfl, rfl⟩, by omega, by omega⟩, ?_⟩
  refine vFor H.ni (fun i e m => e 2 = .ptr 2 V2 0 ∧ m 2 = .var V2 [.fs G.ni f0, .fs G.no f1, .fs G.nr f2, .fs G.na f3, .fs G.nk f4] ∧ e 3 = .ptr 3 V3 0 ∧ m 3 = .var V3 [.fs H.ni h0, .fs H.no h1, .fs H.nr h2, .fs H.na h3, .fs H.nk h4] ∧ e 4 = .ptr 4 V4 0 ∧ m 4 = .var V4 [.cap0, .cap0, .cap0, .cap0, .cap0] ∧ e 6 = .ptr 6 V6 0 ∧ e 28 = .fs H.ni h0 ∧ e 29 = .int .i64 H.ni ∧ e 30 = .int .i64 i ∧ InV (joinI G H i) V6 m) ?_ ?_ ?_
  · simp -implicitDefEqProofs only [vqa, Nat.reduceEqDiff, Nat.reduceAdd, reduceIte, Nat.reduceLeDiff, Nat.reduceBEq, Nat.reduceLT, Nat.reduceSub, Int.reduceLT, Int.reduceLE, Int.reduceEq, Int.reduceToNat, Nat.reduceMul, eq_self, implies_true, forall_const]
    have hl : (joinI G H 0).length = G.ni := ins_len G
    refine ⟨_, _, by rw [hl]; rfl, by rw [hl]; exact (set_ne (by decide) _ _).trans ((set_ne (by decide) _ _).trans (set_same _ _ _)), fun k hk => ?_⟩
    have hk' : k < G.ni := by omega
    show f0 (k - 0) = _
    rw [Nat.sub_zero, g0 k hk']
    exact congrArg AV.str (joinI_at hk').symm
  · rintro i e m hi hi' ⟨e2, m2, e3, m3, e4, m4, e6, e28, e29, e30, ver, g, m6, m23, hg⟩
    have hlen := joinI_len G H i
    unfold a67_0
    simp -implicitDefEqProofs only [vqa, Nat.reduceEqDiff, Nat.reduceAdd, reduceIte, Nat.reduceLeDiff, Nat.reduceBEq, Nat.reduceLT, Nat.reduceSub, Int.reduceLT, Int.reduceLE, Int.reduceEq, Int.reduceToNat, Nat.reduceMul, eq_self, implies_true, forall_const, e2, m2, e3, m3, e4, m4, e6, e28, e29, e30, m6, m23, hi', k0 i hi]
    refine ⟨by omega, ?_⟩
    refine CallW.sc (p71 (joinI G H i).length (nmA (joinI G H i)) g (H.inn i) hg (by omega)) ?_ ?_ fun r ⟨b, hr, hb⟩ => ⟨by subst hr; rfl, ?_⟩
    · simp only [rsC, rs2, rs1, rs0, vqa, Nat.reduceEqDiff, Nat.reduceAdd, reduceIte, Nat.reduceLeDiff, Nat.reduceBEq, Nat.reduceLT, Nat.reduceSub, Int.reduceLT, Int.reduceLE, Int.reduceEq, Int.reduceToNat, Nat.reduceMul, eq_self, implies_true, forall_const, m23]
    · simp only [rsC, rs2, rs1, rs0, vqa, Nat.reduceEqDiff, Nat.reduceAdd, reduceIte, Nat.reduceLeDiff, Nat.reduceBEq, Nat.reduceLT, Nat.reduceSub, Int.reduceLT, Int.reduceLE, Int.reduceEq, Int.reduceToNat, Nat.reduceMul, eq_self, implies_true, forall_const, m23]
    subst hr
    have hb' : b = true ↔ H.inn i ∈ G.ins := by rw [hb, seen_nm, joinI_cond z2 hi]
    cases b with
    | true =>
      have hnew : joinI G H (i + 1) = joinI G H i := by rw [joinI, if_pos (hb'.1 rfl)]
      simp -implicitDefEqProofs only [vqa, Nat.reduceEqDiff, Nat.reduceAdd, reduceIte, Nat.reduceLeDiff, Nat.reduceBEq, Nat.reduceLT, Nat.reduceSub, Int.reduceLT, Int.reduceLE, Int.reduceEq, Int.reduceToNat, Nat.reduceMul, eq_self, implies_true, forall_const, e2, m2, e3, m3, e4, m4, e6, e28, e29, e30, m6, m23]
      rw [hnew]
      exact ⟨hi, wI (by omega) (by omega), _, g, m6, m23, hg⟩
    | false =>
      have hnew : joinI G H (i + 1) = joinI G H i ++ [H.inn i] := by rw [joinI, if_neg (fun h => Bool.noConfusion (hb'.2 h))]
      simp -implicitDefEqProofs only [vqa, Nat.reduceEqDiff, Nat.reduceAdd, reduceIte, Nat.reduceLeDiff, Nat.reduceBEq, Nat.reduceLT, Nat.reduceSub, Int.reduceLT, Int.reduceLE, Int.reduceEq, Int.reduceToNat, Nat.reduceMul, eq_self, implies_true, forall_const, e2, m2, e3, m3, e4, m4, e6, e28, e29, e30, m6, m23]
      rw [hnew]
      generalize joinI G H i = T at *
      have hl : (T ++ [H.inn i]).length = T.length + 1 := by rw [List.length_append]; rfl
      refine ⟨⟨by omega, by omega⟩, hi, wI (by omega) (by omega), _, _, by rw [hl]; exact set_same _ _ _, by rw [hl]; exact (set_ne (by decide) _ _).trans (set_same _ _ _), fun k hk => ?_⟩
      by_cases h : k < T.length
      · simp only [h, decide_true, cond_true]; rw [hg k h, nm_app h]
      · obtain rfl : k = T.length := by omega
        simp only [h, decide_false, cond_false, Nat.sub_self, nm_new]; rfl
  · rintro e m ⟨e2, m2, e3, m3, e4, m4, e6, e28, e29, e30, hV⟩
    have hV : InV (joinT G H) V6 m := hV
    unfold a67_0
    simp -implicitDefEqProofs only [vqa, Nat.reduceEqDiff, Nat.reduceAdd, reduceIte, Nat.reduceLeDiff, Nat.reduceBEq, Nat.reduceLT, Nat.reduceSub, Int.reduceLT, Int.reduceLE, Int.reduceEq, Int.reduceToNat, Nat.reduceMul, eq_self, implies_true, forall_const, e2, m2, e3, m3, e4, m4, e6, e28, e29, e30]
    obtain ⟨ver, g, m6, m23, hg⟩ := hV
    refine seq_join (fun e m => e 2 = .ptr 2 V2 0 ∧ m 2 = .var V2 [.fs G.ni f0, .fs G.no f1, .fs G.nr f2, .fs G.na f3, .fs G.nk f4] ∧ e 3 = .ptr 3 V3 0 ∧ m 3 = .var V3 [.fs H.ni h0, .fs H.no h1, .fs H.nr h2, .fs H.na h3, .fs H.nk h4] ∧ e 4 = .ptr 4 V4 0 ∧ m 4 = .var V4 [.cap0, .cap0, .cap0, .cap0, .cap0] ∧ e 6 = .ptr 6 V6 0 ∧ m 6 = .var V6 [.sl 23 ver (joinT G H).length] ∧ m 23 = .row ver 9 1 (joinT G H).length g ∧ ∃ V9 u1, e 9 = .ptr 9 V9 0 ∧ m 9 = .var V9 [.sl 23 ver (joinT G H).length, .fs (G.no + H.no) u1, .cap0, .cap0, .cap0] ∧ ∀ i, i < G.no + H.no → u1 i = .str ((joinG G H).out i)) ?_ ?_
    · refine vAnyT [0, 1, 2, 3, 4] (.fork (.step 8 (.step 5 (.step 6 (.step 7 (.step 9 .leaf))))) (.step 5 (.fork (.step 8 (.step 6 (.step 7 (.step 9 .leaf)))) (.step 6 (.fork (.step 8 (.step 7 (.step 9 .leaf))) (.step 7 (.step 8 (.step 9 .leaf)))))))) (fun m' => m' 2 = .var V2 [.fs G.ni f0, .fs G.no f1, .fs G.nr f2, .fs G.na f3, .fs G.nk f4] ∧ m' 3 = .var V3 [.fs H.ni h0, .fs H.no h1, .fs H.nr h2, .fs H.na h3, .fs H.nk h4] ∧ m' 6 = .var V6 [.sl 23 ver (joinT G H).length]) (by kernel_rfl) (by kernel_rfl) ⟨m2, m3, m6⟩ ?_
      simp -implicitDefEqProofs only [vqa, Nat.reduceEqDiff, Nat.reduceAdd, reduceIte, Nat.reduceLeDiff, Nat.reduceBEq, Nat.reduceLT, Nat.reduceSub, Int.reduceLT, Int.reduceLE, Int.reduceEq, Int.reduceToNat, Nat.reduceMul, eq_self, implies_true, forall_const, vqt, e2, m2, e3, m3, e4, m4, e6, m6, m23]
      have hpre : pre (fun i => [G.no, H.no].getD i 0) 2 = G.no + H.no := by show 0 + G.no + H.no = _; omega
      have hcat : ∀ gc : Nat → AV, (∀ i, i < G.no + H.no → gc i = cat (fun i => [G.no, H.no].getD i 0) (fun i => [f1, h1].getD i f1) 2 i) → ∀ i, i < G.no + H.no → gc i = .str ((joinG G H).out i) := fun gc hgc i hi => by
        rw [hgc i hi]
        show (if i < 0 + G.no then (if i < 0 then AV.undef else f1 (i - 0)) else h1 (i - (0 + G.no))) = AV.str (if i < G.no then _ else _)
        simp only [Nat.zero_add, Nat.not_lt_zero, if_false, Nat.sub_zero]
        split
        · rename_i hh; rw [g1 i hh]
        · rw [k1 _ (by omega)]
      have p99c := p99 2 (fun i => [G.no, H.no].getD i 0) (fun i => [f1, h1].getD i f1) (fun i => [AV.fs G.no f1, .fs H.no h1].getD i .undef) (fun i hi => by rcases (by omega : i = 0 ∨ i = 1) with rfl | rfl <;> rfl) (fun i hi j hj => by
        rcases (by omega : i = 0 ∨ i = 1) with rfl | rfl
        · show (f1 j).cells.length = 1 ∧ (f1 j).cells.all AV.isCell = true
          rw [g1 j hj]; exact ⟨rfl, rfl⟩
        · show (h1 j).cells.length = 1 ∧ (h1 j).cells.all AV.isCell = true
          rw [k1 j hj]; exact ⟨rfl, rfl⟩) (by rw [hpre]; omega) (by decide)
      rw [hpre] at p99c
      refine ⟨fun m' hm' => (by first | (rw [hm'.1]; exact ⟨_, rfl, rfl⟩) | (rw [hm'.2.1]; exact ⟨_, rfl, rfl⟩) | (rw [hm'.2.2]; exact ⟨_, rfl, rfl⟩)), fun m' hm' => (by first | (rw [hm'.1]; exact ⟨_, rfl, rfl⟩) | (rw [hm'.2.1]; exact ⟨_, rfl, rfl⟩) | (rw [hm'.2.2]; exact ⟨_, rfl, rfl⟩)), fun m' hm' => (by first | (rw [hm'.1]; exact ⟨_, rfl, rfl⟩) | (rw [hm'.2.1]; exact ⟨_, rfl, rfl⟩) | (rw [hm'.2.2]; exact ⟨_, rfl, rfl⟩)), fun m' hm' => (by first | (rw [hm'.1]; exact ⟨_, rfl, rfl⟩) | (rw [hm'.2.1]; exact ⟨_, rfl, rfl⟩) | (rw [hm'.2.2]; exact ⟨_, rfl, rfl⟩)), fun m' hm' => (by first | (rw [hm'.1]; exact ⟨_, rfl, rfl⟩) | (rw [hm'.2.1]; exact ⟨_, rfl, rfl⟩) | (rw [hm'.2.2]; exact ⟨_, rfl, rfl⟩)), ?_, ?_, ?_⟩
      all_goals
        refine CallW.frz (by simp -implicitDefEqProofs only [vqa, Nat.reduceEqDiff, Nat.reduceAdd, reduceIte, Nat.reduceLeDiff, Nat.reduceBEq, Nat.reduceLT, Nat.reduceSub, Int.reduceLT, Int.reduceLE, Int.reduceEq, Int.reduceToNat, Nat.reduceMul, eq_self, implies_true, forall_const]; rfl) (by simp only [and_self]) ?_
        refine CallW.fz p99c rfl rfl fun r ⟨gc, hr, hgc⟩ => ⟨by subst hr; rfl, ?_⟩
        subst hr
        have hgc' := hcat gc hgc
        simp -implicitDefEqProofs only [vqa, Nat.reduceEqDiff, Nat.reduceAdd, reduceIte, Nat.reduceLeDiff, Nat.reduceBEq, Nat.reduceLT, Nat.reduceSub, Int.reduceLT, Int.reduceLE, Int.reduceEq, Int.reduceToNat, Nat.reduceMul, eq_self, implies_true, forall_const, vqt, e2, m2, e3, m3, e4, m4, e6, m6, m23]
        first | exact ⟨_, _, rfl, rfl, hgc'⟩ | exact ⟨⟨_, _, rfl, rfl, hgc'⟩, _, _, rfl, rfl, hgc'⟩ | done
    · skip -- second half
      rintro e m ⟨e2, m2, e3, m3, e4, m4, e6, m6, m23, V9, u1, e9, m9, hu⟩
      simp -implicitDefEqProofs only [vqa, Nat.reduceEqDiff, Nat.reduceAdd, reduceIte, Nat.reduceLeDiff, Nat.reduceBEq, Nat.reduceLT, Nat.reduceSub, Int.reduceLT, Int.reduceLE, Int.reduceEq, Int.reduceToNat, Nat.reduceMul, eq_self, implies_true, forall_const, e2, m2, e3, m3, e4, m4, e6, m6, m23, e9, m9]
      generalize (m 10).ver + 1 = V10
      generalize (m 11).ver + 1 = V11
      generalize (m 66).ver + 1 = V66
      have wl : IntKind.i64.wrap (1 + ((joinT G H).length : Nat)) = ((1 + (joinT G H).length : Nat) : Int) := by rw [wI (by omega) (by omega)]; omega
      have wn : IntKind.i64.wrap (IntKind.i64.wrap (((1 + (joinT G H).length : Nat) : Int) + (G.nr : Nat)) + (H.nr : Nat)) = ((1 + (joinT G H).length + (G.nr + H.nr) : Nat) : Int) := by
        rw [wI (n := ((1 + (joinT G H).length : Nat) : Int) + (G.nr : Nat)) (by omega) (by omega), wI (by omega) (by omega)]; omega
      rw [wl, wn]
      obtain ⟨p2, hp2⟩ : ∃ p : Nat → AV → Prop, p = fun k a => a = ((joinG G H).reg k).av := ⟨_, rfl⟩
      obtain ⟨p3, hp3⟩ : ∃ p : Nat → AV → Prop, p = fun k a => a = .agg [.int .i64 ((joinG G H).A k), .int .i64 ((joinG G H).B k)] := ⟨_, rfl⟩
      obtain ⟨p4, hp4⟩ : ∃ p : Nat → AV → Prop, p = fun k a => a = .int .i64 ((joinG G H).outs k) := ⟨_, rfl⟩
      obtain ⟨fr, hfr⟩ : ∃ fr : Nat → AV, fr = fun k => [AV.agg [.fs G.ni f0, .fs G.no f1, .fs G.nr f2, .fs G.na f3, .fs G.nk f4], .agg [.fs H.ni h0, .fs H.no h1, .fs H.nr h2, .fs H.na h3, .fs H.nk h4]].getD k .undef := ⟨_, rfl⟩
      refine vFor 2 (fun i e m => e 2 = .ptr 2 V2 0 ∧ e 4 = .ptr 4 V4 0 ∧ e 9 = .ptr 9 V9 0 ∧ e 12 = .fn 100 [.ptr 11 V11 0, .ptr 10 V10 0, .ptr 6 V6 0] ∧ e 66 = .sl 66 V66 2 ∧ e 67 = .int .i64 2 ∧ e 68 = .int .i64 i ∧ BaS V2 V4 V66 [.fs G.ni f0, .fs G.no f1, .fs G.nr f2, .fs G.na f3, .fs G.nk f4] [.cap0, .cap0, .cap0, .cap0, .cap0] fr m ∧ m 11 = .var V11 [.int .i64 (1 + (joinT G H).length + (G.nr + H.nr) : Nat)] ∧ m 10 = .var V10 [.int .i64 (1 + (joinT G H).length : Nat)] ∧ m 6 = .var V6 [.sl 23 ver (joinT G H).length] ∧ m 23 = .row ver 9 1 (joinT G H).length g ∧ BsS V9 (.sl 23 ver (joinT G H).length) (.fs (G.no + H.no) u1) p2 p3 p4 (cI G.nr H.nr i) (cI G.na H.na i) (cI G.nk H.nk i) m) ?_ ?_ ?_
      · simp -implicitDefEqProofs only [vqa, Nat.reduceEqDiff, Nat.reduceAdd, reduceIte, Nat.reduceLeDiff, Nat.reduceBEq, Nat.reduceLT, Nat.reduceSub, Int.reduceLT, Int.reduceLE, Int.reduceEq, Int.reduceToNat, Nat.reduceMul, eq_self, implies_true, forall_const, m2, m4, m6, m23, m9, BaS, hfr]
        exact ⟨e2, e4, e9, _, _, _, m9, .inl ⟨rfl, rfl⟩, .inl ⟨rfl, rfl⟩, .inl ⟨rfl, rfl⟩⟩
      · skip
        rintro i e m hi hi' ⟨e2, e4, e9, e12, e66, e67, e68, hBa, m11, m10, m6, m23, hBs⟩
        have hBa' := hBa
        obtain ⟨m2, m4, m66⟩ := hBa'
        have bundle : ∃ (q : Gra) (rr xx : Nat) (r0 r1 r2 r3 r4 : Nat → AV), fr i = .agg [.fs q.ni r0, .fs q.no r1, .fs q.nr r2, .fs q.na r3, .fs q.nk r4] ∧ GraC [.fs q.ni r0, .fs q.no r1, .fs q.nr r2, .fs q.na r3, .fs q.nk r4] q ∧ q.Good ∧ rr ≤ 288 ∧ xx ≤ 4000 ∧ (∀ j, j < q.ni → q.inn j ∈ (joinT G H)) ∧ (i : Int) * (G.nr : Nat) = (rr : Nat) ∧ (i : Int) * (G.na : Nat) = (xx : Nat) ∧
            cI G.nr H.nr (i + 1) = cI G.nr H.nr i + q.nr ∧ cI G.na H.na (i + 1) = cI G.na H.na i + q.na ∧ cI G.nk H.nk (i + 1) = cI G.nk H.nk i + q.nk ∧
            (∀ j, j < q.nr → p2 (cI G.nr H.nr i + j) (.agg [.str (q.reg j).name, .int .i64 (jL (jN (joinT G H) (G.nr + H.nr) q rr xx) (q.reg j).next), .bool (q.reg j).init])) ∧ (∀ j, j < q.na → p3 (cI G.na H.na i + j) (.agg [.int .i64 (jL (jN (joinT G H) (G.nr + H.nr) q rr xx) (q.A j)), .int .i64 (jL (jN (joinT G H) (G.nr + H.nr) q rr xx) (q.B j))])) ∧ (∀ j, j < q.nk → p4 (cI G.nk H.nk i + j) (.int .i64 (jL (jN (joinT G H) (G.nr + H.nr) q rr xx) (q.outs j)))) ∧ cI G.nr H.nr i ≤ 1000 ∧ cI G.na H.na i ≤ 10000 ∧ cI G.nk H.nk i ≤ 1000 := by
          subst hp2; subst hp3; subst hp4; subst hfr
          rcases (by omega : i = 0 ∨ i = 1) with rfl | rfl
          · refine ⟨G, 0, 0, f0, f1, f2, f3, f4, rfl, hG0, gd, by omega, by omega, fun j hj => (joinI_mem _ _).2 (.inl (mem_ins hj)), by omega, by omega, by show G.nr = 0 + G.nr; omega, by show G.na = 0 + G.na; omega, by show G.nk = 0 + G.nk; omega, fun j hj => ?_, fun j hj => ?_, fun j hj => ?_, by show 0 ≤ _; omega, by show 0 ≤ _; omega, by show 0 ≤ _; omega⟩
            · show _ = ((joinG G H).reg (0 + j)).av; rw [Nat.zero_add]; show _ = RegV.av (if j < G.nr then _ else _); rw [if_pos hj]; rfl
            · show _ = AV.agg [.int .i64 ((joinG G H).A (0 + j)), .int .i64 ((joinG G H).B (0 + j))]; rw [Nat.zero_add]; show _ = AV.agg [.int .i64 (if j < G.na then _ else _), .int .i64 (if j < G.na then _ else _)]; rw [if_pos hj, if_pos hj]; rfl
            · show _ = AV.int .i64 ((joinG G H).outs (0 + j)); rw [Nat.zero_add]; show _ = AV.int .i64 (if j < G.nk then _ else _); rw [if_pos hj]; rfl
          · refine ⟨H, G.nr, G.na, h0, h1, h2, h3, h4, rfl, hH0, gh, by omega, by omega, fun j hj => (joinI_mem _ _).2 (.inr ⟨j, hj, rfl⟩), by omega, by omega, by show G.nr + H.nr = G.nr + H.nr; rfl, by show G.na + H.na = G.na + H.na; rfl, by show G.nk + H.nk = G.nk + H.nk; rfl, fun j hj => ?_, fun j hj => ?_, fun j hj => ?_, by show G.nr ≤ _; omega, by show G.na ≤ _; omega, by show G.nk ≤ _; omega⟩
            · show _ = ((joinG G H).reg (G.nr + j)).av; show _ = RegV.av (if G.nr + j < G.nr then _ else _); rw [if_neg (by omega), Nat.add_sub_cancel_left]; rfl
            · show _ = AV.agg [.int .i64 ((joinG G H).A (G.na + j)), .int .i64 ((joinG G H).B (G.na + j))]; show _ = AV.agg [.int .i64 (if G.na + j < G.na then _ else _), .int .i64 (if G.na + j < G.na then _ else _)]; rw [if_neg (by omega), if_neg (by omega), Nat.add_sub_cancel_left]; rfl
            · show _ = AV.int .i64 ((joinG G H).outs (G.nk + j)); show _ = AV.int .i64 (if G.nk + j < G.nk then _ else _); rw [if_neg (by omega), Nat.add_sub_cancel_left]; rfl
        obtain ⟨q, rr, xx, r0, r1, r2, r3, r4, hfi, hgc, gq, hrr, hxx, hin, er, ex, en2, en3, en4, q2, q3, q4, l2, l3, l4⟩ := bundle
        have hgc' := hgc
        obtain ⟨_, _, _, _, _, hcs, t0, t1, t2, t3, t4⟩ := hgc'
        cases hcs
        have c1 := gq.ni; have c2 := gq.nr; have c3 := gq.na; have c4 := gq.no; have c5 := gq.nk
        have up : ∀ {j : Nat} {l : Int}, j < q.na → litOk (q.base + j) l → litOk q.nodes l := fun {j l} hj h => ⟨h.1, by have := h.2; have : q.nodes = q.base + q.na := rfl; omega⟩
        have hi2 : (i : Int) < 2 := by omega
        generalize cI G.nr H.nr i = n2 at *
        generalize cI G.na H.na i = n3 at *
        generalize cI G.nk H.nk i = n4 at *
        unfold a67_1
        simp -implicitDefEqProofs only [vqa, Nat.reduceEqDiff, Nat.reduceAdd, reduceIte, Nat.reduceLeDiff, Nat.reduceBEq, Nat.reduceLT, Nat.reduceSub, Int.reduceLT, Int.reduceLE, Int.reduceEq, Int.reduceToNat, Nat.reduceMul, eq_self, implies_true, forall_const, e2, e4, e9, e12, e66, e67, e68, m2, m4, m66, hi2, hfi, er, ex, wI (n := (rr : Int)) (by omega) (by omega), wI (n := (xx : Int)) (by omega) (by omega)]
        generalize (m 14).ver + 1 = V14
        refine ⟨by omega, by omega, ?_⟩
        refine CallW.mono (p100 1000 (by decide) hgc (rr := (rr : Nat)) (xx := (xx : Nat)) (V11 := V11) (V10 := V10) (V6 := V6)) fun r m' ⟨W6, W7, W8, hr, w6, w7, w8, hK⟩ => ?_
        subst hr
        obtain ⟨y2, y3, y4, m9, A2, A3, A4⟩ := hBs
        have hM : MvS (joinT G H) V6 ver g W6 W7 W8 V10 V11 (G.nr + H.nr) rr xx [.fs q.ni r0, .fs q.no r1, .fs q.nr r2, .fs q.na r3, .fs q.nk r4] m' := ⟨w6, (hK 11 (by decide)).trans m11, w8, (hK 10 (by decide)).trans m10, w7, (hK 6 (by decide)).trans m6, (hK 23 (by decide)).trans m23⟩
        have hB' : BaS V2 V4 V66 [.fs G.ni f0, .fs G.no f1, .fs G.nr f2, .fs G.na f3, .fs G.nk f4] [.cap0, .cap0, .cap0, .cap0, .cap0] fr m' := ⟨(hK 2 (by decide)).trans m2, (hK 4 (by decide)).trans m4, (hK 66 (by decide)).trans m66⟩
        have m14 : m' 14 = .var V14 [.fs q.ni r0, .fs q.no r1, .fs q.nr r2, .fs q.na r3, .fs q.nk r4] := hK 14 (by decide)
        have hBs : BsS V9 (.sl 23 ver (joinT G H).length) (.fs (G.no + H.no) u1) p2 p3 p4 n2 n3 n4 m' := ⟨y2, y3, y4, (hK 9 (by decide)).trans m9, A2.keep (fun s hs => by obtain rfl : s = 105 := (by simpa using hs); exact hK 105 (by decide)), A3.keep (fun s hs => by obtain rfl : s = 127 := (by simpa using hs); exact hK 127 (by decide)), A4.keep (fun s hs => by obtain rfl : s = 143 := (by simpa using hs); exact hK 143 (by decide))⟩
        have p101c := fun {m : Mem} (h : MvS (joinT G H) V6 ver g W6 W7 W8 V10 V11 (G.nr + H.nr) rr xx [.fs q.ni r0, .fs q.no r1, .fs q.nr r2, .fs q.na r3, .fs q.nk r4] m) (l : Int) (hl : litOk q.nodes l) => h.call hgc gq (by omega) (by omega) hrr hxx hin hg l hl
        clear hK w6 w7 w8 m11 m10 m6 m23 m9 A2 A3 A4 y2 y3 y4 hBa m2 m4 m66
        simp -implicitDefEqProofs only [vqa, Nat.reduceEqDiff, Nat.reduceAdd, reduceIte, Nat.reduceLeDiff, Nat.reduceBEq, Nat.reduceLT, Nat.reduceSub, Int.reduceLT, Int.reduceLE, Int.reduceEq, Int.reduceToNat, Nat.reduceMul, eq_self, implies_true, forall_const, e2, e4, e9, e12, e66, e67, e68, m14]
        refine vFor q.nr (fun j e m => e 2 = .ptr 2 V2 0 ∧ e 4 = .ptr 4 V4 0 ∧ e 9 = .ptr 9 V9 0 ∧ e 12 = .fn 100 [.ptr 11 V11 0, .ptr 10 V10 0, .ptr 6 V6 0] ∧ e 66 = .sl 66 V66 2 ∧ e 67 = .int .i64 2 ∧ e 68 = .int .i64 (i : Nat) ∧ BaS V2 V4 V66 [.fs G.ni f0, .fs G.no f1, .fs G.nr f2, .fs G.na f3, .fs G.nk f4] [.cap0, .cap0, .cap0, .cap0, .cap0] fr m ∧ e 14 = .ptr 14 V14 0 ∧ m 14 = .var V14 [.fs q.ni r0, .fs q.no r1, .fs q.nr r2, .fs q.na r3, .fs q.nk r4] ∧ e 15 = .fn 101 [.ptr 1006 W6 0, .ptr 11 V11 0, .ptr 1008 W8 0, .ptr 10 V10 0, .ptr 1007 W7 0, .ptr 6 V6 0] ∧ MvS (joinT G H) V6 ver g W6 W7 W8 V10 V11 (G.nr + H.nr) rr xx [.fs q.ni r0, .fs q.no r1, .fs q.nr r2, .fs q.na r3, .fs q.nk r4] m ∧ e 87 = .fs q.nr r2 ∧ e 88 = .int .i64 q.nr ∧ e 89 = .int .i64 j ∧ BsS V9 (.sl 23 ver (joinT G H).length) (.fs (G.no + H.no) u1) p2 p3 p4 (n2 + j) n3 n4 m) ?_ ?_ ?_
        · simp -implicitDefEqProofs only [vqa, Nat.reduceEqDiff, Nat.reduceAdd, reduceIte, Nat.reduceLeDiff, Nat.reduceBEq, Nat.reduceLT, Nat.reduceSub, Int.reduceLT, Int.reduceLE, Int.reduceEq, Int.reduceToNat, Nat.reduceMul, eq_self, implies_true, forall_const, e2, e4, e9, e12, e66, e67, e68, m14]
          exact ⟨hB', hM, hBs⟩
        · skip
          rintro j e m hj hj' ⟨e2, e4, e9, e12, e66, e67, e68, hBa, e14, m14, e15, hM, h87, h88, h89, y2, y3, y4, m9, A2, A3, A4⟩
          have hfj := t2 j hj
          unfold RegV.av at hfj
          unfold a67_2
          simp -implicitDefEqProofs only [vqa, Nat.reduceEqDiff, Nat.reduceAdd, reduceIte, Nat.reduceLeDiff, Nat.reduceBEq, Nat.reduceLT, Nat.reduceSub, Int.reduceLT, Int.reduceLE, Int.reduceEq, Int.reduceToNat, Nat.reduceMul, eq_self, implies_true, forall_const, e2, e4, e9, e12, e66, e67, e68, e14, m14, e15, m9, h87, h88, h89, hj', hfj]
          generalize (m 17).ver + 1 = V17
          refine ⟨by omega, ?_⟩
          obtain ⟨hz, rfl⟩ | ⟨s', sv, gg, hs', rfl, hm, hgg, hgn⟩ := A2
          · skip
            refine vAny [0, 1, 2, 3, 4, 5, 6, 7, 8, 9, 10, 11, 12, 13, 14] 14 (twoL 9 17) (by kernel_rfl) (by kernel_rfl) ?_
            simp -implicitDefEqProofs only [vqa, Nat.reduceEqDiff, Nat.reduceAdd, reduceIte, Nat.reduceLeDiff, Nat.reduceBEq, Nat.reduceLT, Nat.reduceSub, Int.reduceLT, Int.reduceLE, Int.reduceEq, Int.reduceToNat, Nat.reduceMul, eq_self, implies_true, forall_const, restr_two1, restr_two2, agree_two, e2, e4, e9, e12, e66, e67, e68, e14, m14, e15, m9, h87, h88, h89]
            refine CallW.mono (p101c ?hm (q.reg j).next (gq.next j hj)) fun r m' ⟨hr, hm'⟩ => ?_
            case hm => repeat (first | exact hM | refine MvS.put ?_ (by decide))
            subst hr; subst hm'
            simp -implicitDefEqProofs only [vqa, Nat.reduceEqDiff, Nat.reduceAdd, reduceIte, Nat.reduceLeDiff, Nat.reduceBEq, Nat.reduceLT, Nat.reduceSub, Int.reduceLT, Int.reduceLE, Int.reduceEq, Int.reduceToNat, Nat.reduceMul, eq_self, implies_true, forall_const, restr_two1, restr_two2, agree_two, e2, e4, e9, e12, e66, e67, e68, e14, m14, e15, m9, h87, h88, h89]
            have hq := q2 j hj
            rw [hz] at hq
            obtain rfl : j = 0 := by omega
            refine ⟨hj, ?_, ?_, wI (by omega) (by omega), ?_⟩
            · repeat (first | exact hBa | refine BaS.put ?_ (by decide))
            · repeat (first | exact hM | refine MvS.put ?_ (by decide))
            · refine ⟨_, _, _, set_same _ _ _, ?_, ?_, ?_⟩
              · refine AccP.to2 (AccP.put (AccP.first (by simp) hq) (by simp)) (by omega)
              · repeat (first | exact A3 | refine AccP.put ?_ (by simp))
              · repeat (first | exact A4 | refine AccP.put ?_ (by simp))
          · obtain rfl : s' = 105 := by simpa using hs'
            refine vAny [0, 1, 2, 3, 4, 5, 6, 7, 8, 9, 10, 11, 12, 13, 14] 14 (twoL 9 17) (by kernel_rfl) (by kernel_rfl) ?_
            simp -implicitDefEqProofs only [vqa, Nat.reduceEqDiff, Nat.reduceAdd, reduceIte, Nat.reduceLeDiff, Nat.reduceBEq, Nat.reduceLT, Nat.reduceSub, Int.reduceLT, Int.reduceLE, Int.reduceEq, Int.reduceToNat, Nat.reduceMul, eq_self, implies_true, forall_const, restr_two1, restr_two2, agree_two, e2, e4, e9, e12, e66, e67, e68, e14, m14, e15, m9, h87, h88, h89, hm]
            refine CallW.mono (p101c ?hm (q.reg j).next (gq.next j hj)) fun r m' ⟨hr, hm'⟩ => ?_
            case hm => repeat (first | exact hM | refine MvS.put ?_ (by decide))
            subst hr; subst hm'
            simp -implicitDefEqProofs only [vqa, Nat.reduceEqDiff, Nat.reduceAdd, reduceIte, Nat.reduceLeDiff, Nat.reduceBEq, Nat.reduceLT, Nat.reduceSub, Int.reduceLT, Int.reduceLE, Int.reduceEq, Int.reduceToNat, Nat.reduceMul, eq_self, implies_true, forall_const, restr_two1, restr_two2, agree_two, e2, e4, e9, e12, e66, e67, e68, e14, m14, e15, m9, h87, h88, h89, hm]
            refine ⟨⟨by omega, by omega⟩, hj, ?_, ?_, wI (by omega) (by omega), ?_⟩
            · repeat (first | exact hBa | refine BaS.put ?_ (by decide))
            · repeat (first | exact hM | refine MvS.put ?_ (by decide))
            · refine ⟨_, _, _, set_same _ _ _, ?_, ?_, ?_⟩
              · refine AccP.to2 (AccP.put (AccP.push (by simp) hgg (q2 j hj)) (by simp)) (by omega)
              · repeat (first | exact A3 | refine AccP.put ?_ (by simp))
              · repeat (first | exact A4 | refine AccP.put ?_ (by simp))
        rintro e m ⟨e2, e4, e9, e12, e66, e67, e68, hBa, e14, m14, e15, hM, h87, h88, h89, hBs⟩
        unfold a67_2
        simp -implicitDefEqProofs only [vqa, Nat.reduceEqDiff, Nat.reduceAdd, reduceIte, Nat.reduceLeDiff, Nat.reduceBEq, Nat.reduceLT, Nat.reduceSub, Int.reduceLT, Int.reduceLE, Int.reduceEq, Int.reduceToNat, Nat.reduceMul, eq_self, implies_true, forall_const, e2, e4, e9, e12, e66, e67, e68, e14, m14, e15, h87, h88, h89]
        refine vFor q.na (fun j e m => e 2 = .ptr 2 V2 0 ∧ e 4 = .ptr 4 V4 0 ∧ e 9 = .ptr 9 V9 0 ∧ e 12 = .fn 100 [.ptr 11 V11 0, .ptr 10 V10 0, .ptr 6 V6 0] ∧ e 66 = .sl 66 V66 2 ∧ e 67 = .int .i64 2 ∧ e 68 = .int .i64 (i : Nat) ∧ BaS V2 V4 V66 [.fs G.ni f0, .fs G.no f1, .fs G.nr f2, .fs G.na f3, .fs G.nk f4] [.cap0, .cap0, .cap0, .cap0, .cap0] fr m ∧ e 14 = .ptr 14 V14 0 ∧ m 14 = .var V14 [.fs q.ni r0, .fs q.no r1, .fs q.nr r2, .fs q.na r3, .fs q.nk r4] ∧ e 15 = .fn 101 [.ptr 1006 W6 0, .ptr 11 V11 0, .ptr 1008 W8 0, .ptr 10 V10 0, .ptr 1007 W7 0, .ptr 6 V6 0] ∧ MvS (joinT G H) V6 ver g W6 W7 W8 V10 V11 (G.nr + H.nr) rr xx [.fs q.ni r0, .fs q.no r1, .fs q.nr r2, .fs q.na r3, .fs q.nk r4] m ∧ e 109 = .fs q.na r3 ∧ e 110 = .int .i64 q.na ∧ e 111 = .int .i64 j ∧ BsS V9 (.sl 23 ver (joinT G H).length) (.fs (G.no + H.no) u1) p2 p3 p4 (n2 + q.nr) (n3 + j) n4 m) ?_ ?_ ?_
        · simp -implicitDefEqProofs only [vqa, Nat.reduceEqDiff, Nat.reduceAdd, reduceIte, Nat.reduceLeDiff, Nat.reduceBEq, Nat.reduceLT, Nat.reduceSub, Int.reduceLT, Int.reduceLE, Int.reduceEq, Int.reduceToNat, Nat.reduceMul, eq_self, implies_true, forall_const, e2, e4, e9, e12, e66, e67, e68, e14, m14, e15]
          exact ⟨hBa, hM, hBs⟩
        · skip
          rintro j e m hj hj' ⟨e2, e4, e9, e12, e66, e67, e68, hBa, e14, m14, e15, hM, h109, h110, h111, y2, y3, y4, m9, A2, A3, A4⟩
          have hfj := t3 j hj
          unfold a67_3
          simp -implicitDefEqProofs only [vqa, Nat.reduceEqDiff, Nat.reduceAdd, reduceIte, Nat.reduceLeDiff, Nat.reduceBEq, Nat.reduceLT, Nat.reduceSub, Int.reduceLT, Int.reduceLE, Int.reduceEq, Int.reduceToNat, Nat.reduceMul, eq_self, implies_true, forall_const, e2, e4, e9, e12, e66, e67, e68, e14, m14, e15, m9, h109, h110, h111, hj', hfj]
          generalize (m 19).ver + 1 = V19
          refine ⟨by omega, ?_⟩
          obtain ⟨hz, rfl⟩ | ⟨s', sv, gg, hs', rfl, hm, hgg, hgn⟩ := A3
          · skip
            refine vAny [0, 1, 2, 3, 4, 6, 7, 8, 5, 9, 10, 11, 12, 13, 14] 14 (twoL 9 19) (by kernel_rfl) (by kernel_rfl) ?_
            simp -implicitDefEqProofs only [vqa, Nat.reduceEqDiff, Nat.reduceAdd, reduceIte, Nat.reduceLeDiff, Nat.reduceBEq, Nat.reduceLT, Nat.reduceSub, Int.reduceLT, Int.reduceLE, Int.reduceEq, Int.reduceToNat, Nat.reduceMul, eq_self, implies_true, forall_const, restr_two1, restr_two2, agree_two, e2, e4, e9, e12, e66, e67, e68, e14, m14, e15, m9, h109, h110, h111]
            refine CallW.mono (p101c ?hm (q.A j) (up hj (gq.A j hj))) fun r m' ⟨hr, hm'⟩ => ?_
            case hm => repeat (first | exact hM | refine MvS.put ?_ (by decide))
            subst hr; subst hm'
            simp -implicitDefEqProofs only [vqa, Nat.reduceEqDiff, Nat.reduceAdd, reduceIte, Nat.reduceLeDiff, Nat.reduceBEq, Nat.reduceLT, Nat.reduceSub, Int.reduceLT, Int.reduceLE, Int.reduceEq, Int.reduceToNat, Nat.reduceMul, eq_self, implies_true, forall_const, restr_two1, restr_two2, agree_two, e2, e4, e9, e12, e66, e67, e68, e14, m14, e15, m9, h109, h110, h111]
            refine CallW.mono (p101c ?hm (q.B j) (up hj (gq.B j hj))) fun r m' ⟨hr, hm'⟩ => ?_
            case hm => repeat (first | exact hM | refine MvS.put ?_ (by decide))
            subst hr; subst hm'
            simp -implicitDefEqProofs only [vqa, Nat.reduceEqDiff, Nat.reduceAdd, reduceIte, Nat.reduceLeDiff, Nat.reduceBEq, Nat.reduceLT, Nat.reduceSub, Int.reduceLT, Int.reduceLE, Int.reduceEq, Int.reduceToNat, Nat.reduceMul, eq_self, implies_true, forall_const, restr_two1, restr_two2, agree_two, e2, e4, e9, e12, e66, e67, e68, e14, m14, e15, m9, h109, h110, h111]
            have hq := q3 j hj
            rw [hz] at hq
            obtain rfl : j = 0 := by omega
            refine ⟨hj, ?_, ?_, wI (by omega) (by omega), ?_⟩
            · repeat (first | exact hBa | refine BaS.put ?_ (by decide))
            · repeat (first | exact hM | refine MvS.put ?_ (by decide))
            · refine ⟨_, _, _, set_same _ _ _, ?_, ?_, ?_⟩
              · repeat (first | exact A2 | refine AccP.put ?_ (by simp))
              · refine AccP.to2 (AccP.put (AccP.first (by simp) hq) (by simp)) (by omega)
              · repeat (first | exact A4 | refine AccP.put ?_ (by simp))
          · obtain rfl : s' = 127 := by simpa using hs'
            refine vAny [0, 1, 2, 3, 4, 6, 7, 8, 5, 9, 10, 11, 12, 13, 14] 14 (twoL 9 19) (by kernel_rfl) (by kernel_rfl) ?_
            simp -implicitDefEqProofs only [vqa, Nat.reduceEqDiff, Nat.reduceAdd, reduceIte, Nat.reduceLeDiff, Nat.reduceBEq, Nat.reduceLT, Nat.reduceSub, Int.reduceLT, Int.reduceLE, Int.reduceEq, Int.reduceToNat, Nat.reduceMul, eq_self, implies_true, forall_const, restr_two1, restr_two2, agree_two, e2, e4, e9, e12, e66, e67, e68, e14, m14, e15, m9, h109, h110, h111, hm]
            refine CallW.mono (p101c ?hm (q.A j) (up hj (gq.A j hj))) fun r m' ⟨hr, hm'⟩ => ?_
            case hm => repeat (first | exact hM | refine MvS.put ?_ (by decide))
            subst hr; subst hm'
            simp -implicitDefEqProofs only [vqa, Nat.reduceEqDiff, Nat.reduceAdd, reduceIte, Nat.reduceLeDiff, Nat.reduceBEq, Nat.reduceLT, Nat.reduceSub, Int.reduceLT, Int.reduceLE, Int.reduceEq, Int.reduceToNat, Nat.reduceMul, eq_self, implies_true, forall_const, restr_two1, restr_two2, agree_two, e2, e4, e9, e12, e66, e67, e68, e14, m14, e15, m9, h109, h110, h111, hm]
            refine CallW.mono (p101c ?hm (q.B j) (up hj (gq.B j hj))) fun r m' ⟨hr, hm'⟩ => ?_
            case hm => repeat (first | exact hM | refine MvS.put ?_ (by decide))
            subst hr; subst hm'
            simp -implicitDefEqProofs only [vqa, Nat.reduceEqDiff, Nat.reduceAdd, reduceIte, Nat.reduceLeDiff, Nat.reduceBEq, Nat.reduceLT, Nat.reduceSub, Int.reduceLT, Int.reduceLE, Int.reduceEq, Int.reduceToNat, Nat.reduceMul, eq_self, implies_true, forall_const, restr_two1, restr_two2, agree_two, e2, e4, e9, e12, e66, e67, e68, e14, m14, e15, m9, h109, h110, h111, hm]
            refine ⟨⟨by omega, by omega⟩, hj, ?_, ?_, wI (by omega) (by omega), ?_⟩
            · repeat (first | exact hBa | refine BaS.put ?_ (by decide))
            · repeat (first | exact hM | refine MvS.put ?_ (by decide))
            · refine ⟨_, _, _, set_same _ _ _, ?_, ?_, ?_⟩
              · repeat (first | exact A2 | refine AccP.put ?_ (by simp))
              · refine AccP.to2 (AccP.put (AccP.push (by simp) hgg (q3 j hj)) (by simp)) (by omega)
              · repeat (first | exact A4 | refine AccP.put ?_ (by simp))
        rintro e m ⟨e2, e4, e9, e12, e66, e67, e68, hBa, e14, m14, e15, hM, h109, h110, h111, hBs⟩
        unfold a67_3
        simp -implicitDefEqProofs only [vqa, Nat.reduceEqDiff, Nat.reduceAdd, reduceIte, Nat.reduceLeDiff, Nat.reduceBEq, Nat.reduceLT, Nat.reduceSub, Int.reduceLT, Int.reduceLE, Int.reduceEq, Int.reduceToNat, Nat.reduceMul, eq_self, implies_true, forall_const, e2, e4, e9, e12, e66, e67, e68, e14, m14, e15, h109, h110, h111]
        refine vFor q.nk (fun j e m => e 2 = .ptr 2 V2 0 ∧ e 4 = .ptr 4 V4 0 ∧ e 9 = .ptr 9 V9 0 ∧ e 12 = .fn 100 [.ptr 11 V11 0, .ptr 10 V10 0, .ptr 6 V6 0] ∧ e 66 = .sl 66 V66 2 ∧ e 67 = .int .i64 2 ∧ e 68 = .int .i64 (i : Nat) ∧ BaS V2 V4 V66 [.fs G.ni f0, .fs G.no f1, .fs G.nr f2, .fs G.na f3, .fs G.nk f4] [.cap0, .cap0, .cap0, .cap0, .cap0] fr m ∧ e 14 = .ptr 14 V14 0 ∧ m 14 = .var V14 [.fs q.ni r0, .fs q.no r1, .fs q.nr r2, .fs q.na r3, .fs q.nk r4] ∧ e 15 = .fn 101 [.ptr 1006 W6 0, .ptr 11 V11 0, .ptr 1008 W8 0, .ptr 10 V10 0, .ptr 1007 W7 0, .ptr 6 V6 0] ∧ MvS (joinT G H) V6 ver g W6 W7 W8 V10 V11 (G.nr + H.nr) rr xx [.fs q.ni r0, .fs q.no r1, .fs q.nr r2, .fs q.na r3, .fs q.nk r4] m ∧ e 131 = .fs q.nk r4 ∧ e 132 = .int .i64 q.nk ∧ e 133 = .int .i64 j ∧ BsS V9 (.sl 23 ver (joinT G H).length) (.fs (G.no + H.no) u1) p2 p3 p4 (n2 + q.nr) (n3 + q.na) (n4 + j) m) ?_ ?_ ?_
        · simp -implicitDefEqProofs only [vqa, Nat.reduceEqDiff, Nat.reduceAdd, reduceIte, Nat.reduceLeDiff, Nat.reduceBEq, Nat.reduceLT, Nat.reduceSub, Int.reduceLT, Int.reduceLE, Int.reduceEq, Int.reduceToNat, Nat.reduceMul, eq_self, implies_true, forall_const, e2, e4, e9, e12, e66, e67, e68, e14, m14, e15]
          exact ⟨hBa, hM, hBs⟩
        · skip
          rintro j e m hj hj' ⟨e2, e4, e9, e12, e66, e67, e68, hBa, e14, m14, e15, hM, h131, h132, h133, y2, y3, y4, m9, A2, A3, A4⟩
          have hfj := t4 j hj
          unfold a67_4
          simp -implicitDefEqProofs only [vqa, Nat.reduceEqDiff, Nat.reduceAdd, reduceIte, Nat.reduceLeDiff, Nat.reduceBEq, Nat.reduceLT, Nat.reduceSub, Int.reduceLT, Int.reduceLE, Int.reduceEq, Int.reduceToNat, Nat.reduceMul, eq_self, implies_true, forall_const, e2, e4, e9, e12, e66, e67, e68, e14, m14, e15, m9, h131, h132, h133, hj', hfj]
          refine ⟨by omega, ?_⟩
          obtain ⟨hz, rfl⟩ | ⟨s', sv, gg, hs', rfl, hm, hgg, hgn⟩ := A4
          · skip
            refine vAny [0, 1, 2, 3, 4, 5, 6, 7, 8] 8 (oneL 9) (by kernel_rfl) (by kernel_rfl) ?_
            simp -implicitDefEqProofs only [vqa, Nat.reduceEqDiff, Nat.reduceAdd, reduceIte, Nat.reduceLeDiff, Nat.reduceBEq, Nat.reduceLT, Nat.reduceSub, Int.reduceLT, Int.reduceLE, Int.reduceEq, Int.reduceToNat, Nat.reduceMul, eq_self, implies_true, forall_const, restr_two1, restr_two2, agree_two, e2, e4, e9, e12, e66, e67, e68, e14, m14, e15, m9, h131, h132, h133]
            refine CallW.mono (p101c ?hm (q.outs j) (gq.outs j hj)) fun r m' ⟨hr, hm'⟩ => ?_
            case hm => repeat (first | exact hM | refine MvS.put ?_ (by decide))
            subst hr; subst hm'
            simp -implicitDefEqProofs only [vqa, Nat.reduceEqDiff, Nat.reduceAdd, reduceIte, Nat.reduceLeDiff, Nat.reduceBEq, Nat.reduceLT, Nat.reduceSub, Int.reduceLT, Int.reduceLE, Int.reduceEq, Int.reduceToNat, Nat.reduceMul, eq_self, implies_true, forall_const, restr_two1, restr_two2, agree_two, e2, e4, e9, e12, e66, e67, e68, e14, m14, e15, m9, h131, h132, h133]
            have hq := q4 j hj
            rw [hz] at hq
            obtain rfl : j = 0 := by omega
            refine ⟨hj, ?_, ?_, wI (by omega) (by omega), ?_⟩
            · repeat (first | exact hBa | refine BaS.put ?_ (by decide))
            · repeat (first | exact hM | refine MvS.put ?_ (by decide))
            · refine ⟨_, _, _, set_same _ _ _, ?_, ?_, ?_⟩
              · repeat (first | exact A2 | refine AccP.put ?_ (by simp))
              · repeat (first | exact A3 | refine AccP.put ?_ (by simp))
              · refine AccP.to2 (AccP.put (AccP.first (by simp) hq) (by simp)) (by omega)
          · obtain rfl : s' = 143 := by simpa using hs'
            refine vAny [0, 1, 2, 3, 4, 5, 6, 7, 8] 8 (oneL 9) (by kernel_rfl) (by kernel_rfl) ?_
            simp -implicitDefEqProofs only [vqa, Nat.reduceEqDiff, Nat.reduceAdd, reduceIte, Nat.reduceLeDiff, Nat.reduceBEq, Nat.reduceLT, Nat.reduceSub, Int.reduceLT, Int.reduceLE, Int.reduceEq, Int.reduceToNat, Nat.reduceMul, eq_self, implies_true, forall_const, restr_two1, restr_two2, agree_two, e2, e4, e9, e12, e66, e67, e68, e14, m14, e15, m9, h131, h132, h133, hm]
            refine CallW.mono (p101c ?hm (q.outs j) (gq.outs j hj)) fun r m' ⟨hr, hm'⟩ => ?_
            case hm => repeat (first | exact hM | refine MvS.put ?_ (by decide))
            subst hr; subst hm'
            simp -implicitDefEqProofs only [vqa, Nat.reduceEqDiff, Nat.reduceAdd, reduceIte, Nat.reduceLeDiff, Nat.reduceBEq, Nat.reduceLT, Nat.reduceSub, Int.reduceLT, Int.reduceLE, Int.reduceEq, Int.reduceToNat, Nat.reduceMul, eq_self, implies_true, forall_const, restr_two1, restr_two2, agree_two, e2, e4, e9, e12, e66, e67, e68, e14, m14, e15, m9, h131, h132, h133, hm]
            refine ⟨⟨by omega, by omega⟩, hj, ?_, ?_, wI (by omega) (by omega), ?_⟩
            · repeat (first | exact hBa | refine BaS.put ?_ (by decide))
            · repeat (first | exact hM | refine MvS.put ?_ (by decide))
            · refine ⟨_, _, _, set_same _ _ _, ?_, ?_, ?_⟩
              · repeat (first | exact A2 | refine AccP.put ?_ (by simp))
              · repeat (first | exact A3 | refine AccP.put ?_ (by simp))
              · refine AccP.to2 (AccP.put (AccP.push (by simp) hgg (q4 j hj)) (by simp)) (by omega)
        rintro e m ⟨e2, e4, e9, e12, e66, e67, e68, hBa, e14, m14, e15, hM, h131, h132, h133, hBs⟩
        unfold a67_4
        simp -implicitDefEqProofs only [vqa, Nat.reduceEqDiff, Nat.reduceAdd, reduceIte, Nat.reduceLeDiff, Nat.reduceBEq, Nat.reduceLT, Nat.reduceSub, Int.reduceLT, Int.reduceLE, Int.reduceEq, Int.reduceToNat, Nat.reduceMul, eq_self, implies_true, forall_const, e2, e4, e9, e12, e66, e67, e68, e14, m14, e15, h131, h132, h133]
        exact ⟨hi, wI (by omega) (by omega), hBa, hM.2.1, hM.2.2.2.1, hM.2.2.2.2.2.1, hM.2.2.2.2.2.2, by rw [en2, en3, en4]; exact hBs⟩
      · rintro e m ⟨e2, e4, e9, e12, e66, e67, e68, ⟨m2, m4, m66⟩, m11, m10, m6, m23, y2, y3, y4, m9, B2, B3, B4⟩
        unfold a67_1
        have B2 : AccP [105] 49 3 (G.nr + H.nr) p2 y2 m := B2
        have B3 : AccP [127] 110 2 (G.na + H.na) p3 y3 m := B3
        have B4 : AccP [143] 28 1 (G.nk + H.nk) p4 y4 m := B4
        have hx : InR [23] (joinT G H) (.sl 23 ver (joinT G H).length) m := .inr ⟨23, ver, g, by decide, rfl, m23, hg⟩
        simp -implicitDefEqProofs only [vqa, Nat.reduceEqDiff, Nat.reduceAdd, reduceIte, Nat.reduceLeDiff, Nat.reduceBEq, Nat.reduceLT, Nat.reduceSub, Int.reduceLT, Int.reduceLE, Int.reduceEq, Int.reduceToNat, Nat.reduceMul, eq_self, implies_true, forall_const, e2, e4, e9, e12, e66, e67, e68, m4, m9]
        obtain ⟨u0, rr0, l0⟩ := hx.rs0
        obtain ⟨u2, rr2, l2⟩ := B2.rs0
        obtain ⟨u3, rr3, l3⟩ := B3.rs0
        obtain ⟨u4, rr4, l4⟩ := B4.rs0
        have hD : ∀ u0 u2 u3 u4 : Nat → AV, (∀ j, j < (joinT G H).length → u0 j = .str (nmA (joinT G H) j)) → (∀ j, j < G.nr + H.nr → p2 j (u2 j)) → (∀ j, j < G.na + H.na → p3 j (u3 j)) → (∀ j, j < G.nk + H.nk → p4 j (u4 j)) → GraC [.fs (joinT G H).length u0, .fs (G.no + H.no) u1, .fs (G.nr + H.nr) u2, .fs (G.na + H.na) u3, .fs (G.nk + H.nk) u4] (joinG G H) := fun u0 u2 u3 u4 l0 l2 l3 l4 => by
          subst hp2; subst hp3; subst hp4
          exact ⟨u0, u1, u2, u3, u4, rfl, l0, hu, l2, l3, l4⟩
        have rf1 : rs0 m (.fs (G.no + H.no) u1) = (True, .fs (G.no + H.no) u1) := rfl
        refine CallW.sc (p30 (hD u0 u2 u3 u4 l0 l2 l3 l4) jok) ?_ ?_ fun r hr => ⟨by subst hr; rfl, ?_⟩
        · simp only [rsC, rs2, rr0, rf1, rr2, rr3, rr4]
        · simp only [rsC, rs2, rr0, rf1, rr2, rr3, rr4]; exact ⟨⟨trivial, trivial, trivial, trivial, trivial, trivial⟩, trivial⟩
        subst hr
        obtain ⟨t21, t22, t23⟩ := B2.cell
        obtain ⟨t31, t32, t33⟩ := B3.cell
        obtain ⟨t41, t42, t43⟩ := B4.cell
        simp -implicitDefEqProofs only [vqa, Nat.reduceEqDiff, Nat.reduceAdd, reduceIte, Nat.reduceLeDiff, Nat.reduceBEq, Nat.reduceLT, Nat.reduceSub, Int.reduceLT, Int.reduceLE, Int.reduceEq, Int.reduceToNat, Nat.reduceMul, eq_self, implies_true, forall_const, e2, e4, e9, e12, e66, e67, e68, m4, m9, t21, t22, t23, t31, t32, t33, t41, t42, t43]
        refine ⟨fun hne => ?_, fun hne => ?_⟩
        · rw [eF, show joinRes G H = nilG by unfold joinRes; rw [if_neg (by rw [eF]; exact hne)]]
          exact ⟨_, rfl, nilG_c _ _ _ _ _⟩
        · have hz : joinF G H = 0 := by rw [eF]; exact Classical.not_not.1 hne
          have C2 := (B2.put (o := AO.var V4 [.sl 23 ver (joinT G H).length, .fs (G.no + H.no) u1, y2, y3, y4]) (t := 4) (by decide)).put (o := AO.dead (ver + 1)) (t := 23) (by decide)
          have C3 := (B3.put (o := AO.var V4 [.sl 23 ver (joinT G H).length, .fs (G.no + H.no) u1, y2, y3, y4]) (t := 4) (by decide)).put (o := AO.dead (ver + 1)) (t := 23) (by decide)
          have C4 := (B4.put (o := AO.var V4 [.sl 23 ver (joinT G H).length, .fs (G.no + H.no) u1, y2, y3, y4]) (t := 4) (by decide)).put (o := AO.dead (ver + 1)) (t := 23) (by decide)
          obtain ⟨c2, w2, mm2, s2, d2, ⟨v2, y2w, l2⟩, u2f⟩ := C2.frz0
          obtain ⟨c3, w3, mm3, s3, d3, ⟨v3, y3w, l3⟩, u3f⟩ := (C3.keep (m' := mm2) fun s hs => u2f s (by obtain rfl : s = 127 := (by simpa using hs); decide)).frz0
          obtain ⟨c4, w4, mm4, s4, d4, ⟨v4, y4w, l4⟩, u4f⟩ := (C4.keep (m' := mm3) fun s hs => by
            obtain rfl : s = 143 := (by simpa using hs)
            rw [u3f 143 (by decide), u2f 143 (by decide)]).frz0
          simp -implicitDefEqProofs only [vqa, Nat.reduceEqDiff, Nat.reduceAdd, reduceIte, Nat.reduceLeDiff, Nat.reduceBEq, Nat.reduceLT, Nat.reduceSub, Int.reduceLT, Int.reduceLE, Int.reduceEq, Int.reduceToNat, Nat.reduceMul, eq_self, implies_true, forall_const, m23, s2, s3, s4, y2w, y3w, y4w, hz]
          refine ⟨⟨d2, d3, d4⟩, _, rfl, ?_⟩
          rw [show joinRes G H = joinG G H by unfold joinRes; rw [if_pos hz]]
          exact hD g v2 v3 v4 hg l2 l3 l4
end Go.Ab
