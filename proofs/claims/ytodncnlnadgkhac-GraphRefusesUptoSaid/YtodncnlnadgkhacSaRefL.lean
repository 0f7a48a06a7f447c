/- The law GraphRefuses. -/
import Derived.Test.YtodncnlnadgkhacSaRef1
set_option linter.unusedSimpArgs false
set_option linter.unusedVariables false
namespace Go.Ab
open Go
def a4_0 : AC := (.seq (.ops [⟨(some 70), none, (.v (.bin .lss (.t 69) (.t 68)))⟩]) (.seq (.cond (.t 70) .skip (.exit 1)) (.seq (.block 2 (.seq (.ops [⟨(some 71), none, (.v (.idx 1 (.t 67) (.t 69)))⟩, ⟨(some 72), none, (.v (.load 1 false (.t 71)))⟩, ⟨(some 27), none, (.v (.mv (.t 72)))⟩]) (.seq (.any [⟨(some 73), none, (.v (.load 1 false (.t 21)))⟩, ⟨(some 74), none, (.v (.mv (.t 5)))⟩, ⟨(some 75), none, (.v (.mv (.t 27)))⟩, ⟨(some 76), none, (.v (.idx 1 (.t 74) (.t 75)))⟩, ⟨(some 77), none, (.v (.load 1 false (.t 76)))⟩, ⟨(some 78), none, (.call (.t 73) [(.t 77)])⟩] [[], [], [], [1, 2], [3], [0, 4]]) (.cond (.t 78) (.ops [⟨none, none, (.e (.store 1 (.t 23) (.c (.int .i64 2))))⟩]) .skip)))) (.ops [⟨(some 79), none, (.v (.bin .add (.t 69) (.c (.int .i64 1))))⟩, ⟨(some 69), none, (.v (.mv (.t 79)))⟩]))))
def a4_1 : AC := (.seq (.ops [⟨(some 192), none, (.v (.bin .lss (.t 191) (.t 190)))⟩]) (.seq (.cond (.t 192) .skip (.exit 3)) (.seq (.block 4 (.seq (.ops [⟨(some 193), none, (.v (.mv (.t 191)))⟩, ⟨(some 194), none, (.v (.idx 3 (.t 189) (.t 191)))⟩, ⟨(some 195), none, (.v (.load 3 true (.t 194)))⟩, ⟨(some 33), none, (.e (.alloc 33 [(.str ⟨#[]⟩), (.int .i64 0), (.bool false)]))⟩, ⟨(some 32), none, (.v (.mv (.t 193)))⟩, ⟨none, none, (.e (.store 3 (.t 33) (.t 195)))⟩]) (.seq (.seq (.ops [⟨(some 196), none, (.v (.mv (.t 32)))⟩, ⟨(some 197), none, (.v (.mv (.t 8)))⟩, ⟨(some 198), none, (.v (.len (.t 197)))⟩, ⟨(some 199), none, (.v (.bin .lss (.t 196) (.t 198)))⟩]) (.cond (.t 199) (.ops [⟨(some 200), none, (.v (.mv (.t 8)))⟩, ⟨(some 201), none, (.v (.mv (.t 32)))⟩, ⟨(some 202), none, (.v (.idx 1 (.t 200) (.t 201)))⟩, ⟨(some 203), none, (.v (.load 1 false (.t 202)))⟩, ⟨(some 204), none, (.v (.fld 1 (.t 33)))⟩, ⟨none, none, (.e (.store 1 (.t 204) (.t 203)))⟩]) .skip)) (.ops [⟨(some 205), none, (.v (.fld 2 (.t 31)))⟩, ⟨(some 206), none, (.v (.load 1 false (.t 205)))⟩, ⟨(some 207), none, (.v (.load 3 true (.t 33)))⟩, ⟨(some 208), none, (.e (.lit 208 37 3 1 [(.str ⟨#[]⟩), (.int .i64 0), (.bool false)] [(0, (.t 207))]))⟩, ⟨(some 209), none, (.e (.app 209 37 3 32 (.t 206) (.t 208)))⟩, ⟨(some 210), none, (.v (.fld 2 (.t 31)))⟩, ⟨none, none, (.e (.store 1 (.t 210) (.t 209)))⟩])))) (.ops [⟨(some 211), none, (.v (.bin .add (.t 191) (.c (.int .i64 1))))⟩, ⟨(some 191), none, (.v (.mv (.t 211)))⟩]))))
def a4 : AC := (.seq (.ops [⟨(some 18), none, (.v (.mv (.c (.bool false))))⟩]) (.seq (.ops [⟨(some 34), none, (.v (.mv (.t 0)))⟩, ⟨(some 35), none, (.v (.mv (.t 1)))⟩, ⟨(some 36), none, (.call (.c (.fn 8 [])) [(.t 34), (.t 35)])⟩, ⟨(some 19), none, (.v (.mv (.t 36)))⟩]) (.seq (.seq (.ops [⟨(some 37), none, (.call (.c (.fn 9 [])) [])⟩, ⟨(some 38), none, (.v (.not (.t 37)))⟩, ⟨(some 39), none, (.v (.mv (.t 38)))⟩, ⟨(some 40), (some (39, false)), (.v (.mv (.t 19)))⟩, ⟨(some 41), (some (39, false)), (.v (.pnil false (.t 40)))⟩, ⟨(some 42), none, (.v (.pick (.t 39) (.c (.bool true)) (.t 41)))⟩]) (.cond (.t 42) (.seq (.ops [⟨(some 18), none, (.v (.mv (.c (.bool false))))⟩]) .ret) .skip)) (.seq (.ops [⟨(some 43), none, (.v (.mv (.t 0)))⟩, ⟨(some 44), none, (.v (.len (.t 43)))⟩, ⟨(some 45), none, (.v (.bin .add (.c (.int .i64 1)) (.t 44)))⟩, ⟨(some 46), none, (.v (.mv (.t 1)))⟩, ⟨(some 47), none, (.v (.len (.t 46)))⟩, ⟨(some 48), none, (.v (.bin .add (.t 45) (.t 47)))⟩, ⟨(some 20), none, (.e (.alloc 20 [(.int .i64 0)]))⟩, ⟨none, none, (.e (.store 1 (.t 20) (.t 48)))⟩]) (.seq (.ops [⟨(some 49), none, (.v (.mkfn 20 [(.t 20)]))⟩, ⟨(some 21), none, (.e (.alloc 21 [.nilf]))⟩, ⟨none, none, (.e (.store 1 (.t 21) (.t 49)))⟩]) (.seq (.ops [⟨(some 50), none, (.v (.mv (.t 5)))⟩, ⟨(some 51), none, (.call (.c (.fn 21 [])) [(.t 50)])⟩, ⟨(some 52), none, (.e (.lit 52 35 1 3 [(.int .i64 0)] [(0, (.c (.int .i64 0))), (1, (.c (.int .i64 0))), (2, (.c (.int .i64 0)))]))⟩, ⟨(some 53), none, (.e (.app 53 35 1 8 (.t 51) (.t 52)))⟩, ⟨(some 22), none, (.e (.alloc 22 [.cap0]))⟩, ⟨none, none, (.e (.store 1 (.t 22) (.t 53)))⟩]) (.seq (.ops [⟨(some 23), none, (.e (.alloc 23 [(.int .i64 0)]))⟩, ⟨none, none, (.e (.store 1 (.t 23) (.c (.int .i64 0))))⟩]) (.seq (.ops [⟨(some 54), none, (.v (.mkfn 22 [(.t 22), (.t 21), (.t 23)]))⟩, ⟨(some 24), none, (.v (.mv (.t 54)))⟩]) (.seq (.ops [⟨(some 25), none, (.v (.mv (.c (.int .i64 0))))⟩]) (.seq (.seq (.ops [⟨(some 55), none, (.v (.mv (.t 2)))⟩, ⟨(some 56), none, (.call (.c (.fn 6 [])) [(.t 55), (.c (.int .i64 7))])⟩]) (.block 0 (.seq (.ops [⟨(some 81), none, (.v (.bin .eql (.t 56) (.c (.int .i64 0))))⟩, ⟨(some 80), none, (.v (.mv (.t 81)))⟩]) (.cond (.t 80) (.seq (.ops [⟨(some 82), none, (.v (.mv (.t 19)))⟩, ⟨(some 83), none, (.v (.mv (.t 3)))⟩, ⟨(some 84), none, (.call (.c (.fn 11 [])) [(.t 82), (.t 83)])⟩, ⟨(some 25), none, (.v (.mv (.t 84)))⟩]) (.seq (.ops [⟨(some 85), none, (.v (.mv (.t 3)))⟩, ⟨(some 86), none, (.v (.bin .lss (.t 85) (.c (.int .i64 0))))⟩, ⟨(some 87), none, (.v (.mv (.t 86)))⟩, ⟨(some 88), (some (87, false)), (.v (.mv (.t 3)))⟩, ⟨(some 89), (some (87, false)), (.v (.mv (.t 0)))⟩, ⟨(some 90), (some (87, false)), (.v (.len (.t 89)))⟩, ⟨(some 91), (some (87, false)), (.v (.bin .geq (.t 88) (.t 90)))⟩, ⟨(some 92), none, (.v (.pick (.t 87) (.c (.bool true)) (.t 91)))⟩]) (.cond (.t 92) (.ops [⟨none, none, (.e (.store 1 (.t 23) (.c (.int .i64 2))))⟩]) .skip))) (.seq (.ops [⟨(some 94), none, (.v (.bin .eql (.t 56) (.c (.int .i64 1))))⟩, ⟨(some 93), none, (.v (.mv (.t 94)))⟩]) (.cond (.t 93) (.seq (.ops [⟨(some 95), none, (.v (.mv (.t 19)))⟩, ⟨(some 96), none, (.v (.mv (.t 3)))⟩, ⟨(some 97), none, (.call (.c (.fn 12 [])) [(.t 95), (.t 96)])⟩, ⟨(some 25), none, (.v (.mv (.t 97)))⟩]) (.seq (.ops [⟨(some 98), none, (.v (.mv (.t 3)))⟩, ⟨(some 99), none, (.v (.bin .lss (.t 98) (.c (.int .i64 0))))⟩, ⟨(some 100), none, (.v (.mv (.t 99)))⟩, ⟨(some 101), (some (100, false)), (.v (.mv (.t 3)))⟩, ⟨(some 102), (some (100, false)), (.v (.mv (.t 1)))⟩, ⟨(some 103), (some (100, false)), (.v (.len (.t 102)))⟩, ⟨(some 104), (some (100, false)), (.v (.bin .geq (.t 101) (.t 103)))⟩, ⟨(some 105), none, (.v (.pick (.t 100) (.c (.bool true)) (.t 104)))⟩]) (.cond (.t 105) (.ops [⟨none, none, (.e (.store 1 (.t 23) (.c (.int .i64 2))))⟩]) .skip))) (.seq (.ops [⟨(some 107), none, (.v (.bin .eql (.t 56) (.c (.int .i64 2))))⟩, ⟨(some 106), none, (.v (.mv (.t 107)))⟩]) (.cond (.t 106) (.seq (.any [⟨(some 108), none, (.v (.mv (.t 19)))⟩, ⟨(some 109), none, (.v (.load 1 false (.t 22)))⟩, ⟨(some 110), none, (.v (.idx 1 (.t 109) (.c (.int .i64 0))))⟩, ⟨(some 111), none, (.v (.load 1 false (.t 110)))⟩, ⟨(some 112), none, (.v (.load 1 false (.t 22)))⟩, ⟨(some 113), none, (.v (.idx 1 (.t 112) (.c (.int .i64 1))))⟩, ⟨(some 114), none, (.v (.load 1 false (.t 113)))⟩, ⟨(some 115), none, (.call (.c (.fn 24 [])) [(.t 108), (.t 111), (.t 114)])⟩, ⟨(some 25), none, (.v (.mv (.t 115)))⟩] [[], [], [1], [2], [], [4], [5], [0, 3, 6], [7, 7, 0, 1, 2, 3, 4, 5, 6, 7]]) (.ops [⟨(some 116), none, (.v (.mv (.t 24)))⟩, ⟨(some 117), none, (.call (.t 116) [(.c (.int .i64 2))])⟩])) (.seq (.ops [⟨(some 119), none, (.v (.bin .eql (.t 56) (.c (.int .i64 3))))⟩, ⟨(some 118), none, (.v (.mv (.t 119)))⟩]) (.cond (.t 118) (.seq (.any [⟨(some 120), none, (.v (.mv (.t 19)))⟩, ⟨(some 121), none, (.v (.load 1 false (.t 22)))⟩, ⟨(some 122), none, (.v (.idx 1 (.t 121) (.c (.int .i64 0))))⟩, ⟨(some 123), none, (.v (.load 1 false (.t 122)))⟩, ⟨(some 124), none, (.v (.load 1 false (.t 22)))⟩, ⟨(some 125), none, (.v (.idx 1 (.t 124) (.c (.int .i64 1))))⟩, ⟨(some 126), none, (.v (.load 1 false (.t 125)))⟩, ⟨(some 127), none, (.call (.c (.fn 25 [])) [(.t 120), (.t 123), (.t 126)])⟩, ⟨(some 25), none, (.v (.mv (.t 127)))⟩] [[], [], [1], [2], [], [4], [5], [0, 3, 6], [7, 7, 0, 1, 2, 3, 4, 5, 6, 7]]) (.ops [⟨(some 128), none, (.v (.mv (.t 24)))⟩, ⟨(some 129), none, (.call (.t 128) [(.c (.int .i64 2))])⟩])) (.seq (.ops [⟨(some 131), none, (.v (.bin .eql (.t 56) (.c (.int .i64 4))))⟩, ⟨(some 130), none, (.v (.mv (.t 131)))⟩]) (.cond (.t 130) (.seq (.any [⟨(some 132), none, (.v (.mv (.t 19)))⟩, ⟨(some 133), none, (.v (.load 1 false (.t 22)))⟩, ⟨(some 134), none, (.v (.idx 1 (.t 133) (.c (.int .i64 0))))⟩, ⟨(some 135), none, (.v (.load 1 false (.t 134)))⟩, ⟨(some 136), none, (.v (.load 1 false (.t 22)))⟩, ⟨(some 137), none, (.v (.idx 1 (.t 136) (.c (.int .i64 1))))⟩, ⟨(some 138), none, (.v (.load 1 false (.t 137)))⟩, ⟨(some 139), none, (.call (.c (.fn 26 [])) [(.t 132), (.t 135), (.t 138)])⟩, ⟨(some 25), none, (.v (.mv (.t 139)))⟩] [[], [], [1], [2], [], [4], [5], [0, 3, 6], [7, 7, 0, 1, 2, 3, 4, 5, 6, 7]]) (.ops [⟨(some 140), none, (.v (.mv (.t 24)))⟩, ⟨(some 141), none, (.call (.t 140) [(.c (.int .i64 2))])⟩])) (.seq (.ops [⟨(some 143), none, (.v (.bin .eql (.t 56) (.c (.int .i64 5))))⟩, ⟨(some 142), none, (.v (.mv (.t 143)))⟩]) (.cond (.t 142) (.seq (.any [⟨(some 144), none, (.v (.mv (.t 19)))⟩, ⟨(some 145), none, (.v (.load 1 false (.t 22)))⟩, ⟨(some 146), none, (.v (.idx 1 (.t 145) (.c (.int .i64 0))))⟩, ⟨(some 147), none, (.v (.load 1 false (.t 146)))⟩, ⟨(some 148), none, (.v (.load 1 false (.t 22)))⟩, ⟨(some 149), none, (.v (.idx 1 (.t 148) (.c (.int .i64 1))))⟩, ⟨(some 150), none, (.v (.load 1 false (.t 149)))⟩, ⟨(some 151), none, (.v (.load 1 false (.t 22)))⟩, ⟨(some 152), none, (.v (.idx 1 (.t 151) (.c (.int .i64 2))))⟩, ⟨(some 153), none, (.v (.load 1 false (.t 152)))⟩, ⟨(some 154), none, (.call (.c (.fn 27 [])) [(.t 144), (.t 147), (.t 150), (.t 153)])⟩, ⟨(some 25), none, (.v (.mv (.t 154)))⟩] [[], [], [1], [2], [], [4], [5], [], [7], [8], [0, 3, 6, 9], [10, 10, 0, 1, 2, 3, 4, 5, 6, 7, 8, 9, 10]]) (.ops [⟨(some 155), none, (.v (.mv (.t 24)))⟩, ⟨(some 156), none, (.call (.t 155) [(.c (.int .i64 3))])⟩])) (.seq (.ops [⟨(some 57), none, (.v (.mv (.t 19)))⟩, ⟨(some 58), none, (.v (.mv (.t 4)))⟩, ⟨(some 59), none, (.v (.mv (.t 5)))⟩, ⟨(some 60), none, (.call (.c (.fn 28 [])) [(.t 57), (.t 58), (.t 59)])⟩, ⟨(some 25), none, (.v (.mv (.t 60)))⟩]) (.seq (.ops [⟨(some 61), none, (.v (.mv (.t 5)))⟩, ⟨(some 62), none, (.v (.len (.t 61)))⟩, ⟨(some 63), none, (.v (.bin .gtr (.t 62) (.c (.int .i64 6))))⟩]) (.cond (.t 63) (.ops [⟨none, none, (.e (.store 1 (.t 23) (.c (.int .i64 3))))⟩]) (.seq (.ops [⟨(some 64), none, (.v (.mv (.t 4)))⟩, ⟨(some 65), none, (.v (.mv (.t 5)))⟩, ⟨(some 66), none, (.v (.len (.t 65)))⟩, ⟨(some 67), none, (.call (.c (.fn 29 [])) [(.t 64), (.t 66)])⟩, ⟨(some 68), none, (.v (.len (.t 67)))⟩, ⟨(some 69), none, (.v (.mv (.c (.int .i64 0))))⟩]) (.block 1 (.loop a4_0)))))))))))))))))))) (.seq (.any [⟨(some 157), none, (.v (.mv (.t 19)))⟩, ⟨(some 158), none, (.call (.c (.fn 13 [])) [(.t 157)])⟩, ⟨(some 159), none, (.v (.load 1 false (.t 20)))⟩, ⟨(some 160), none, (.v (.bin .sub (.t 158) (.t 159)))⟩, ⟨(some 28), none, (.v (.mv (.t 160)))⟩] [[], [0], [], [1, 2], [3, 1, 0, 1, 2, 3]]) (.seq (.ops [⟨(some 162), none, (.v (.mv (.t 19)))⟩, ⟨(some 163), none, (.v (.mv (.t 6)))⟩, ⟨(some 164), none, (.v (.mv (.t 7)))⟩, ⟨(some 165), none, (.v (.mv (.t 8)))⟩, ⟨(some 166), none, (.call (.c (.fn 15 [])) [(.t 162), (.t 163), (.t 164), (.t 165)])⟩, ⟨(some 161), none, (.v (.mv (.t 166)))⟩, ⟨(some 167), none, (.v (.ext 0 (.t 161)))⟩, ⟨(some 168), none, (.v (.ext 1 (.t 161)))⟩, ⟨(some 29), none, (.e (.alloc 29 [.cap0, .cap0, .cap0, .cap0, .cap0]))⟩, ⟨none, none, (.e (.store 5 (.t 29) (.t 167)))⟩, ⟨(some 30), none, (.v (.mv (.t 168)))⟩]) (.seq (.seq (.ops [⟨(some 169), none, (.v (.mv (.t 28)))⟩, ⟨(some 170), none, (.v (.bin .lss (.t 169) (.c (.int .i64 0))))⟩, ⟨(some 171), none, (.v (.mv (.t 170)))⟩, ⟨(some 172), (some (171, false)), (.v (.mv (.t 28)))⟩, ⟨(some 173), (some (171, false)), (.v (.bin .gtr (.t 172) (.c (.int .i64 189))))⟩, ⟨(some 174), none, (.v (.pick (.t 171) (.c (.bool true)) (.t 173)))⟩, ⟨(some 175), none, (.v (.mv (.t 174)))⟩, ⟨(some 176), (some (175, false)), (.v (.load 1 false (.t 23)))⟩, ⟨(some 177), (some (175, false)), (.v (.bin .neq (.t 176) (.c (.int .i64 0))))⟩, ⟨(some 178), (some (175, false)), (.v (.mv (.t 177)))⟩, ⟨(some 179), (some (178, true)), (.v (.mv (.t 25)))⟩, ⟨(some 180), (some (178, true)), (.v (.bin .neq (.t 179) (.c (.int .i64 0))))⟩, ⟨(some 181), (some (175, false)), (.v (.pick (.t 178) (.t 180) (.c (.bool false))))⟩, ⟨(some 182), none, (.v (.pick (.t 175) (.c (.bool true)) (.t 181)))⟩]) (.cond (.t 182) (.seq (.ops [⟨(some 18), none, (.v (.mv (.c (.bool false))))⟩]) .ret) .skip)) (.seq (.ops [⟨(some 183), none, (.v (.mv (.t 0)))⟩, ⟨(some 184), none, (.v (.mv (.t 6)))⟩, ⟨(some 185), none, (.v (.mv (.t 7)))⟩, ⟨(some 186), none, (.v (.mv (.t 28)))⟩, ⟨(some 187), none, (.e (.make 187 103 2 16 [(.int .i64 0), (.int .i64 0)] (.t 186) (.t 186)))⟩, ⟨(some 188), none, (.v (.build [.cap0, .cap0, .cap0, .cap0, .cap0] [(0, (1, (.t 183))), (1, (1, (.t 184))), (4, (1, (.t 185))), (3, (1, (.t 187)))]))⟩, ⟨(some 31), none, (.e (.alloc 31 [.cap0, .cap0, .cap0, .cap0, .cap0]))⟩, ⟨none, none, (.e (.store 5 (.t 31) (.t 188)))⟩]) (.seq (.seq (.ops [⟨(some 189), none, (.v (.mv (.t 1)))⟩, ⟨(some 190), none, (.v (.len (.t 189)))⟩, ⟨(some 191), none, (.v (.mv (.c (.int .i64 0))))⟩]) (.block 3 (.loop a4_1))) (.seq (.seq (.ops [⟨(some 212), none, (.v (.load 1 false (.t 23)))⟩, ⟨(some 213), none, (.v (.bin .eql (.t 212) (.c (.int .i64 0))))⟩, ⟨(some 214), none, (.v (.mv (.t 213)))⟩, ⟨(some 215), (some (214, true)), (.v (.mv (.t 8)))⟩, ⟨(some 216), (some (214, true)), (.v (.len (.t 215)))⟩, ⟨(some 217), (some (214, true)), (.v (.mv (.t 1)))⟩, ⟨(some 218), (some (214, true)), (.v (.len (.t 217)))⟩, ⟨(some 219), (some (214, true)), (.v (.bin .neq (.t 216) (.t 218)))⟩, ⟨(some 220), none, (.v (.pick (.t 214) (.t 219) (.c (.bool false))))⟩]) (.cond (.t 220) (.ops [⟨none, none, (.e (.store 1 (.t 23) (.c (.int .i64 4))))⟩]) .skip)) (.seq (.seq (.ops [⟨(some 221), none, (.v (.load 1 false (.t 23)))⟩, ⟨(some 222), none, (.v (.bin .eql (.t 221) (.c (.int .i64 0))))⟩]) (.cond (.t 222) (.ops [⟨(some 223), none, (.v (.load 5 true (.t 31)))⟩, ⟨(some 224), none, (.call (.c (.fn 16 [])) [(.t 223)])⟩, ⟨none, none, (.e (.store 1 (.t 23) (.t 224)))⟩]) .skip)) (.seq (.ops [⟨(some 225), none, (.v (.mv (.t 30)))⟩, ⟨(some 226), none, (.v (.load 1 false (.t 23)))⟩, ⟨(some 227), none, (.v (.bin .eql (.t 225) (.t 226)))⟩, ⟨(some 228), none, (.v (.mv (.t 227)))⟩, ⟨(some 229), (some (228, true)), (.v (.mv (.t 30)))⟩, ⟨(some 230), (some (228, true)), (.v (.bin .neq (.t 229) (.c (.int .i64 0))))⟩, ⟨(some 231), (some (228, true)), (.v (.mv (.t 230)))⟩, ⟨(some 232), (some (231, true)), (.v (.load 5 true (.t 29)))⟩, ⟨(some 233), (some (231, true)), (.v (.build [.cap0, .cap0, .cap0, .cap0, .cap0] []))⟩, ⟨(some 234), (some (231, true)), (.call (.c (.fn 30 [])) [(.t 232), (.t 233)])⟩, ⟨(some 235), (some (228, true)), (.v (.pick (.t 231) (.t 234) (.c (.bool false))))⟩, ⟨(some 236), (some (228, true)), (.v (.mv (.t 235)))⟩, ⟨(some 237), (some (236, false)), (.v (.mv (.t 30)))⟩, ⟨(some 238), (some (236, false)), (.v (.bin .eql (.t 237) (.c (.int .i64 0))))⟩, ⟨(some 239), (some (236, false)), (.v (.mv (.t 238)))⟩, ⟨(some 240), (some (239, true)), (.v (.load 5 true (.t 29)))⟩, ⟨(some 241), (some (239, true)), (.call (.c (.fn 16 [])) [(.t 240)])⟩, ⟨(some 242), (some (239, true)), (.v (.bin .eql (.t 241) (.c (.int .i64 0))))⟩, ⟨(some 243), (some (236, false)), (.v (.pick (.t 239) (.t 242) (.c (.bool false))))⟩, ⟨(some 244), (some (236, false)), (.v (.mv (.t 243)))⟩, ⟨(some 245), (some (244, true)), (.v (.fld 4 (.t 29)))⟩, ⟨(some 246), (some (244, true)), (.v (.load 1 false (.t 245)))⟩, ⟨(some 247), (some (244, true)), (.v (.mv (.t 7)))⟩, ⟨(some 248), (some (244, true)), (.call (.c (.fn 31 [])) [(.t 246), (.t 247)])⟩, ⟨(some 249), (some (236, false)), (.v (.pick (.t 244) (.t 248) (.c (.bool false))))⟩, ⟨(some 250), (some (236, false)), (.v (.mv (.t 249)))⟩, ⟨(some 251), (some (250, true)), (.v (.fld 3 (.t 29)))⟩, ⟨(some 252), (some (250, true)), (.v (.load 1 false (.t 251)))⟩, ⟨(some 253), (some (250, true)), (.v (.len (.t 252)))⟩, ⟨(some 254), (some (250, true)), (.v (.mv (.t 28)))⟩, ⟨(some 255), (some (250, true)), (.v (.bin .eql (.t 253) (.t 254)))⟩, ⟨(some 256), (some (236, false)), (.v (.pick (.t 250) (.t 255) (.c (.bool false))))⟩, ⟨(some 257), (some (228, true)), (.v (.pick (.t 236) (.c (.bool true)) (.t 256)))⟩, ⟨(some 258), none, (.v (.pick (.t 228) (.t 257) (.c (.bool false))))⟩, ⟨(some 18), none, (.v (.mv (.t 258)))⟩]) .ret))))))))))))))))))
def r4 : List AI := [(.mv (.t 18))]
theorem f4 : Fn PP 4 9 a4 r4 := Fn.of (fn := Go.Proofs.Try.f4) (by kernel_rfl) (by kernel_rfl) (by kernel_rfl)
/-- The literals, and zeros behind them. -/
def t3 (nl : Nat) (x : Nat → Int) (k : Nat) : Int := if k < nl then x k else 0
/-- What one call has left: the error that is wanted, and what was got. -/
def Left (M M' : Mak) (want got : Int) : Prop := (want = 0 ∧ MStep M M' 189) ∨ (want ≠ 0 ∧ M' = M.fail want ∧ got = 0)
theorem left_two {M M' : Mak} {got : Int} (h : M' = M.fail 2 ∧ got = 0) : Left M M' 2 got := .inr ⟨by decide, h.1, h.2⟩
/-- The graph with zeros for its nodes. -/
def Mak.graZ (M : Mak) (nin : Nat → ByteArray) (rg : Nat → RegV) (no : Nat) (out : Nat → ByteArray) (nk : Nat) (outs nx : Nat → Int) : Gra := { M.gra nin rg no out nk outs nx with A := fun _ => 0, B := fun _ => 0 }
theorem bef_lit {M : Mak} {l : Int} : M.bef l ↔ litOk M.nodes l := Iff.rfl
theorem fail_n (M : Mak) (c : Int) : (M.fail c).n = M.n ∧ (M.fail c).ni = M.ni ∧ (M.fail c).nr = M.nr := ⟨rfl, rfl, rfl⟩

set_option maxHeartbeats 8000000 in
theorem p4 (ni nr no nk nn nl : Nat) (fi fr fo fk fn fl : Nat → AV) (nin : Nat → ByteArray) (rg : Nat → RegV) (out : Nat → ByteArray) (outs nx x : Nat → Int) (what ix t : Int)
    (hfi : ∀ i, i < ni → fi i = .str (nin i) ∧ (nin i).size ≤ 1048576) (hfr : ∀ i, i < nr → fr i = (rg i).av ∧ (rg i).name.size ≤ 1048576 ∧ L64 (rg i).next) (hfo : ∀ i, i < no → fo i = .str (out i) ∧ (out i).size ≤ 1048576) (hfk : ∀ i, i < nk → fk i = .int .i64 (outs i) ∧ L64 (outs i)) (hfn : ∀ i, i < nn → fn i = .int .i64 (nx i) ∧ L64 (nx i)) (hfl : ∀ i, i < nl → fl i = .int .i64 (x i) ∧ L64 (x i))
    (h1 : ni ≤ 1048576) (h2 : nr ≤ 1048576) (h3 : no ≤ 1048576) (h4 : nk ≤ 1048576) (h5 : nn ≤ 1048576) (h6 : nl ≤ 1048576) (hw : L64 what) (hx : L64 ix) (ht : U64 t) :
    Pure PP 4 [.fs ni fi, .fs nr fr, .int .i64 what, .int .i64 ix, .int .u64 t, .fs nl fl, .fs no fo, .fs nk fk, .fs nn fn] fun r => r = .bool true := by
  refine Fn.pure fmix f4 ?_
  unfold a4 r4
  simp -implicitDefEqProofs only [vqa, Nat.reduceEqDiff, Nat.reduceAdd, reduceIte, Nat.reduceLeDiff, Nat.reduceBEq, Nat.reduceLT, Nat.reduceSub, Int.reduceLT, Int.reduceLE, Int.reduceEq, Int.reduceToNat, Nat.reduceMul, eq_self, implies_true, forall_const]
  refine CallW.mono (p8 1000 (fun i hi => by rw [(hfi i hi).1]; exact ⟨rfl, rfl⟩) (fun i hi => by rw [(hfr i hi).1]; exact ⟨rfl, rfl⟩) h1 h2) fun r m ⟨v, gi, gr, hr, hM0, hK, hgi, hgr⟩ => ?_
  subst hr
  have ok0 : (newM ni nr).Ok := ⟨h1, h2, Nat.zero_le _⟩
  have gd0 : (newM ni nr).Good := fun k hk => absurd hk (Nat.not_lt_zero _)
  have hM : MkA m 1011 v gi gr (newM ni nr) (fun i => 1000 ≤ i ∧ i < 1100) := hM0.wide fun i hi => hi.elim False.elim id
  simp -implicitDefEqProofs only [vqa, Nat.reduceEqDiff, Nat.reduceAdd, reduceIte, Nat.reduceLeDiff, Nat.reduceBEq, Nat.reduceLT, Nat.reduceSub, Int.reduceLT, Int.reduceLE, Int.reduceEq, Int.reduceToNat, Nat.reduceMul, eq_self, implies_true, forall_const]
  refine CallW.sc p9 rfl trivial fun r hr => ⟨by subst hr; rfl, ?_⟩
  subst hr
  have hM' := hM
  obtain ⟨av, sid, sv, pp, gg, mo, _⟩ := hM'
  simp -implicitDefEqProofs only [vqa, Nat.reduceEqDiff, Nat.reduceAdd, reduceIte, Nat.reduceLeDiff, Nat.reduceBEq, Nat.reduceLT, Nat.reduceSub, Int.reduceLT, Int.reduceLE, Int.reduceEq, Int.reduceToNat, Nat.reduceMul, eq_self, implies_true, forall_const, mo]
  clear mo
  generalize (m 20).ver + 1 = V20
  generalize (m 21).ver + 1 = V21
  have wb : IntKind.i64.wrap (IntKind.i64.wrap (1 + (ni : Int)) + (nr : Nat)) = (((newM ni nr).nodes : Nat) : Int) := by
    rw [wI (n := 1 + (ni : Int)) (by omega) (by omega), wI (by omega) (by omega)]
    show _ = ((1 + ni + nr + 0 : Nat) : Int); omega
  rw [wb]
  have hC : ∀ mm : Mem, CallW PP 21 [.fs nl fl] mm fun r m' => ((r = .cap0 ∧ nl = 0) ∨ ∃ ver g, r = .sl 51 ver nl ∧ m' 51 = .row ver 35 1 nl g ∧ ∀ i, i < nl → g i = fl i) ∧ ∀ i, i ≠ 51 → m' i = mm i := fun mm => by
    refine CallW.own0 51 (p21s nl fl (fun i hi => by rw [(hfl i hi).1]; exact ⟨rfl, rfl⟩) (by omega)) rfl rfl (fun hz => ⟨.inl ⟨rfl, hz⟩, fun _ _ => rfl⟩) (fun e sz n g ⟨q1, q2, q3, hg⟩ => ?_)
    subst q1; subst q2; subst q3
    exact ⟨.inr ⟨_, g, rfl, set_same _ _ _, hg⟩, fun i hi => set_ne hi _ _⟩
  refine CallW.mono (hC _) fun rc m1 ⟨hrc, hF1⟩ => ?_
  simp -implicitDefEqProofs only [vqa, Nat.reduceEqDiff, Nat.reduceAdd, reduceIte, Nat.reduceLeDiff, Nat.reduceBEq, Nat.reduceLT, Nat.reduceSub, Int.reduceLT, Int.reduceLE, Int.reduceEq, Int.reduceToNat, Nat.reduceMul, eq_self, implies_true, forall_const]
  refine eL_join (fun vv m' => ∃ id ver f3, (id = 51 ∨ id = 53) ∧ vv = .sl id ver (nl + 3) ∧ m' id = .row ver 35 1 (nl + 3) f3 ∧ (∀ k, k < nl + 3 → f3 k = .int .i64 (t3 nl x k)) ∧ ∀ i, i ≠ 51 → i ≠ 52 → i ≠ 53 → m' i = m1 i) ?_ ?_
  · obtain ⟨rfl, hz⟩ | ⟨ver, g, rfl, mr, hg⟩ := hrc
    · simp -implicitDefEqProofs only [vqa, Nat.reduceEqDiff, Nat.reduceAdd, reduceIte, Nat.reduceLeDiff, Nat.reduceBEq, Nat.reduceLT, Nat.reduceSub, Int.reduceLT, Int.reduceLE, Int.reduceEq, Int.reduceToNat, Nat.reduceMul, eq_self, implies_true, forall_const]
      refine ⟨_, _, _, rfl, fun i hi => ?_, 53, _, _, .inr rfl, by rw [hz], by rw [hz]; exact set_same _ _ _, fun k hk => ?_, fun i q1 q2 q3 => by rw [set_ne q3, set_ne q2]⟩
      · rcases (by omega : i = 0 ∨ i = 1 ∨ i = 2) with rfl | rfl | rfl <;> exact ⟨rfl, rfl⟩
      · unfold t3
        rw [if_neg (by omega)]
        rcases (by omega : k = 0 ∨ k = 1 ∨ k = 2) with rfl | rfl | rfl <;> rfl
    · simp -implicitDefEqProofs only [vqa, Nat.reduceEqDiff, Nat.reduceAdd, reduceIte, Nat.reduceLeDiff, Nat.reduceBEq, Nat.reduceLT, Nat.reduceSub, Int.reduceLT, Int.reduceLE, Int.reduceEq, Int.reduceToNat, Nat.reduceMul, eq_self, implies_true, forall_const, mr]
      refine ⟨_, _, _, rfl, ⟨fun i hi => ?_, by omega, by omega⟩, 51, _, _, .inl rfl, rfl, set_same _ _ _, fun k hk => ?_, fun i q1 q2 q3 => by rw [set_ne q1, set_ne q2]⟩
      · rcases (by omega : i = 0 ∨ i = 1 ∨ i = 2) with rfl | rfl | rfl <;> exact ⟨rfl, rfl⟩
      · unfold t3
        by_cases q : k < nl
        · simp only [q, decide_true, cond_true, if_true]; rw [hg k q, (hfl k q).1]
        · simp only [q, decide_false, cond_false, if_false]
          rcases (by omega : k - nl = 0 ∨ k - nl = 1 ∨ k - nl = 2) with e | e | e <;> rw [e] <;> rfl
  · rintro vv m2 ⟨id, ver, f3, hid, rfl, mi, hf3, hF2⟩
    simp -implicitDefEqProofs only [vqa, Nat.reduceEqDiff, Nat.reduceAdd, reduceIte, Nat.reduceLeDiff, Nat.reduceBEq, Nat.reduceLT, Nat.reduceSub, Int.reduceLT, Int.reduceLE, Int.reduceEq, Int.reduceToNat, Nat.reduceMul, eq_self, implies_true, forall_const]
    generalize (m2 22).ver + 1 = V22
    generalize (m2 23).ver + 1 = V23
    generalize hmm : Mem.set 23 (AO.var V23 [AV.int .i64 0]) (Mem.set 23 (AO.var V23 [AV.int .i64 0]) (Mem.set 22 (AO.var V22 [AV.sl id ver (nl + 3)]) (Mem.set 22 (AO.var V22 [AV.cap0]) m2))) = mm
    have hid2 : id ≠ 22 ∧ id ≠ 23 := by omega
    have f20 : mm 20 = .var V20 [.int .i64 ((newM ni nr).nodes : Nat)] := by rw [← hmm]; exact (hF2 20 (by decide) (by decide) (by decide)).trans (hF1 20 (by decide))
    have f21 : mm 21 = .var V21 [.fn 20 [.ptr 20 V20 0]] := by rw [← hmm]; exact (hF2 21 (by decide) (by decide) (by decide)).trans (hF1 21 (by decide))
    have f22 : mm 22 = .var V22 [.sl id ver (nl + 3)] := by rw [← hmm]; rfl
    have f23 : mm 23 = .var V23 [.int .i64 0] := by rw [← hmm]; rfl
    have fid : mm id = .row ver 35 1 (nl + 3) f3 := by rw [← hmm, set_ne hid2.2, set_ne hid2.2, set_ne hid2.1, set_ne hid2.1]; exact mi
    have fM : MkA mm 1011 v gi gr (newM ni nr) (fun i => 1000 ≤ i ∧ i < 1100) := hM.congr (fun i hi => by
      have hi : 1000 ≤ i ∧ i < 1100 := hi
      rw [← hmm, set_ne (by omega), set_ne (by omega), set_ne (by omega), set_ne (by omega), hF2 i (by omega) (by omega) (by omega), hF1 i (by omega)]
      rw [set_ne (by omega), set_ne (by omega), set_ne (by omega), set_ne (by omega)]) (fun _ h => h)
    clear hmm mi hF2 hF1 hrc
    have wide : ∀ {m : Mem} {M : Mak} {c : Nat}, c ≤ 30000 → MkA m 1011 v gi gr M (Ext (fun i => 1000 ≤ i ∧ i < 1100) 2000 c) → MkA m 1011 v gi gr M (fun i => 1000 ≤ i ∧ i < 30000) := fun hc h => h.wide fun i hi => hi.elim (fun q => ⟨q.1, by omega⟩) fun q => ⟨by omega, by omega⟩
    have wide0 : ∀ {m : Mem} {M : Mak}, MkA m 1011 v gi gr M (fun i => 1000 ≤ i ∧ i < 1100) → MkA m 1011 v gi gr M (fun i => 1000 ≤ i ∧ i < 30000) := fun h => h.wide fun i hi => ⟨hi.1, by have := hi.2; omega⟩
    have hnd : (newM ni nr).nodes ≤ 16777216 := by show 1 + ni + nr + 0 ≤ _; omega
    have hSb : ∀ i, (1000 ≤ i ∧ i < 1100) → i < 2000 := fun i hi => by omega
    refine CallW.sc (p6 what hw) rfl ⟨trivial, trivial, trivial⟩ fun r ⟨j, hr, j0, j6⟩ => ⟨by subst hr; rfl, ?_⟩
    subst hr
    refine call_join (fun e m => e 0 = .fs ni fi ∧ e 1 = .fs nr fr ∧ e 6 = .fs no fo ∧ e 7 = .fs nk fk ∧ e 8 = .fs nn fn ∧ e 19 = .ptr 1011 v 0 ∧ e 20 = .ptr 20 V20 0 ∧ m 20 = .var V20 [.int .i64 ((newM ni nr).nodes : Nat)] ∧ e 23 = .ptr 23 V23 0 ∧ ∃ M' got want, MkA m 1011 v gi gr M' (fun i => 1000 ≤ i ∧ i < 30000) ∧ M'.Ok ∧ e 25 = .int .i64 got ∧ m 23 = .var V23 [.int .i64 want] ∧ Left (newM ni nr) M' want got) ?_ ?_
    · rcases (by omega : j = 0 ∨ j = 1 ∨ j = 2 ∨ j = 3 ∨ j = 4 ∨ j = 5 ∨ j = 6) with rfl | rfl | rfl | rfl | rfl | rfl | rfl
      · simp -implicitDefEqProofs only [vqa, Nat.reduceEqDiff, Nat.reduceAdd, reduceIte, Nat.reduceLeDiff, Nat.reduceBEq, Nat.reduceLT, Nat.reduceSub, Int.reduceLT, Int.reduceLE, Int.reduceEq, Int.reduceToNat, Nat.reduceMul, eq_self, implies_true, forall_const]
        refine (p11 fM ok0 ix).mono fun r m4 ⟨hr, hM4, hF4⟩ => ?_
        subst hr
        have g20 := (hF4 20 (by decide)).trans f20
        have g23 := (hF4 23 (by decide)).trans f23
        have bad : (ix < 0 ∨ (ni : Int) ≤ ix) → (newM ni nr).inF ix = (0, (newM ni nr).fail 2) := fun h => if_pos h
        simp -implicitDefEqProofs only [vqa, Nat.reduceEqDiff, Nat.reduceAdd, reduceIte, Nat.reduceLeDiff, Nat.reduceBEq, Nat.reduceLT, Nat.reduceSub, Int.reduceLT, Int.reduceLE, Int.reduceEq, Int.reduceToNat, Nat.reduceMul, eq_self, implies_true, forall_const, g20, g23]
        refine ⟨fun a => ⟨fun b => ?_, fun b => ?_⟩, fun a => ?_⟩
        · rw [bad (.inr b)] at hM4 ⊢
          exact ⟨_, _, 2, (wide0 hM4).setOut (fun h => absurd h.1 (by decide)), fail_ok ok0 _, rfl, rfl, left_two ⟨rfl, rfl⟩⟩
        · have good : ((newM ni nr).inF ix).2 = newM ni nr := by unfold Mak.inF; rw [if_neg (fun h => h.elim a b)]
          rw [good] at hM4
          exact ⟨_, _, 0, wide0 hM4, ok0, rfl, rfl, .inl ⟨rfl, .refl gd0⟩⟩
        · rw [bad (.inl a)] at hM4 ⊢
          exact ⟨_, _, 2, (wide0 hM4).setOut (fun h => absurd h.1 (by decide)), fail_ok ok0 _, rfl, rfl, left_two ⟨rfl, rfl⟩⟩
      · simp -implicitDefEqProofs only [vqa, Nat.reduceEqDiff, Nat.reduceAdd, reduceIte, Nat.reduceLeDiff, Nat.reduceBEq, Nat.reduceLT, Nat.reduceSub, Int.reduceLT, Int.reduceLE, Int.reduceEq, Int.reduceToNat, Nat.reduceMul, eq_self, implies_true, forall_const]
        refine (p12 fM ok0 ix).mono fun r m4 ⟨hr, hM4, hF4⟩ => ?_
        subst hr
        have g20 := (hF4 20 (by decide)).trans f20
        have g23 := (hF4 23 (by decide)).trans f23
        have bad : (ix < 0 ∨ (nr : Int) ≤ ix) → (newM ni nr).regF ix = (0, (newM ni nr).fail 2) := fun h => if_pos h
        simp -implicitDefEqProofs only [vqa, Nat.reduceEqDiff, Nat.reduceAdd, reduceIte, Nat.reduceLeDiff, Nat.reduceBEq, Nat.reduceLT, Nat.reduceSub, Int.reduceLT, Int.reduceLE, Int.reduceEq, Int.reduceToNat, Nat.reduceMul, eq_self, implies_true, forall_const, g20, g23]
        refine ⟨fun a => ⟨fun b => ?_, fun b => ?_⟩, fun a => ?_⟩
        · rw [bad (.inr b)] at hM4 ⊢
          exact ⟨_, _, 2, (wide0 hM4).setOut (fun h => absurd h.1 (by decide)), fail_ok ok0 _, rfl, rfl, left_two ⟨rfl, rfl⟩⟩
        · have good : ((newM ni nr).regF ix).2 = newM ni nr := by unfold Mak.regF; rw [if_neg (fun h => h.elim a b)]
          rw [good] at hM4
          exact ⟨_, _, 0, wide0 hM4, ok0, rfl, rfl, .inl ⟨rfl, .refl gd0⟩⟩
        · rw [bad (.inl a)] at hM4 ⊢
          exact ⟨_, _, 2, (wide0 hM4).setOut (fun h => absurd h.1 (by decide)), fail_ok ok0 _, rfl, rfl, left_two ⟨rfl, rfl⟩⟩
      · simp -implicitDefEqProofs only [vqa, Nat.reduceEqDiff, Nat.reduceAdd, reduceIte, Nat.reduceLeDiff, Nat.reduceBEq, Nat.reduceLT, Nat.reduceSub, Int.reduceLT, Int.reduceLE, Int.reduceEq, Int.reduceToNat, Nat.reduceMul, eq_self, implies_true, forall_const]
        have z : ∀ k, k < 3 → f3 k = .int .i64 (t3 nl x k) := fun k hk => hf3 k (by omega)
        refine vAnyT [0, 1, 2, 3, 4, 5, 6] (.step 7 (.step 8 .leaf)) (fun m' => m' 22 = .var V22 [.sl id ver (nl + 3)] ∧ m' id = .row ver 35 1 (nl + 3) f3) (by kernel_rfl) (by kernel_rfl) ⟨f22, fid⟩ ?_
        simp -implicitDefEqProofs only [vqa, Nat.reduceEqDiff, Nat.reduceAdd, reduceIte, Nat.reduceLeDiff, Nat.reduceBEq, Nat.reduceLT, Nat.reduceSub, Int.reduceLT, Int.reduceLE, Int.reduceEq, Int.reduceToNat, Nat.reduceMul, eq_self, implies_true, forall_const, vqt, f22, fid, z 0 (by decide), z 1 (by decide), z 2 (by decide)]
        refine ⟨fun m' hm' => (by rw [hm'.1]; exact ⟨_, rfl, rfl⟩), by omega, fun m' hm' => (by rw [hm'.2]; exact ⟨_, rfl, rfl, by omega⟩), fun m' hm' => (by rw [hm'.2]; exact ⟨(ver = ver ∧ 0 < nl + 3), by simp only [z 0 (by decide)]; rfl, rfl, by omega⟩), fun m' hm' => (by rw [hm'.1]; exact ⟨_, rfl, rfl⟩), by omega, fun m' hm' => (by rw [hm'.2]; exact ⟨_, rfl, rfl, by omega⟩), by omega, fun m' hm' => (by rw [hm'.2]; exact ⟨(ver = ver ∧ 1 < nl + 3), by simp only [z 1 (by decide)]; rfl, rfl, by omega⟩), ?_⟩
        refine CallW.mono (p24 2000 fM ok0 hSb (t3 nl x 0) (t3 nl x 1)) fun r m4 ⟨hr, hM4, hF4⟩ => ?_
        subst hr
        have ns : ∀ i, i < 1000 → m4 i = mm i := fun i hi => hF4 i (by omega) (fun h => by have := h.1; omega)
        have g20 := (ns 20 (by decide)).trans f20
        have g21 := (ns 21 (by decide)).trans f21
        have g22 := (ns 22 (by decide)).trans f22
        have g23 := (ns 23 (by decide)).trans f23
        have gid := (ns id (by omega)).trans fid
        simp -implicitDefEqProofs only [vqa, Nat.reduceEqDiff, Nat.reduceAdd, reduceIte, Nat.reduceLeDiff, Nat.reduceBEq, Nat.reduceLT, Nat.reduceSub, Int.reduceLT, Int.reduceLE, Int.reduceEq, Int.reduceToNat, Nat.reduceMul, eq_self, implies_true, forall_const, vqt, g22, gid]
        refine CallW.mono (p22 (n := 2) (k := (newM ni nr).nodes) g20 g21 g22 g23 gid hf3 (by omega) (by omega) hnd) fun r m5 ⟨hr, hm5⟩ => ?_
        subst hr
        by_cases q : (newM ni nr).two (t3 nl x 0) (t3 nl x 1)
        · have hs : ¬ scan (fun i => badLit (newM ni nr).nodes (t3 nl x i)) 2 ≠ 0 := fun h => by
            obtain ⟨i, hi, hb⟩ := (scan_bad_iff _ _ _).1 h
            rcases (by omega : i = 0 ∨ i = 1) with rfl | rfl
            · exact hb q.1
            · exact hb q.2
          rw [if_neg hs] at hm5
          subst hm5
          simp -implicitDefEqProofs only [vqa, Nat.reduceEqDiff, Nat.reduceAdd, reduceIte, Nat.reduceLeDiff, Nat.reduceBEq, Nat.reduceLT, Nat.reduceSub, Int.reduceLT, Int.reduceLE, Int.reduceEq, Int.reduceToNat, Nat.reduceMul, eq_self, implies_true, forall_const, g20, g23, Mak.andF, q] at hM4 ⊢
          exact ⟨_, _, 0, wide (by decide) hM4, and_ok ok0 _ _, rfl, rfl, .inl ⟨rfl, (and_step gd0 (show (0 : Nat) < 4000 by decide) q.1 q.2).1.mono (by decide)⟩⟩
        · have hs : scan (fun i => badLit (newM ni nr).nodes (t3 nl x i)) 2 ≠ 0 := (scan_bad_iff _ _ _).2 (Classical.byContradiction fun hc => q ⟨Classical.byContradiction fun hb => hc ⟨0, by decide, hb⟩, Classical.byContradiction fun hb => hc ⟨1, by decide, hb⟩⟩)
          rw [if_pos hs] at hm5
          subst hm5
          simp -implicitDefEqProofs only [vqa, Nat.reduceEqDiff, Nat.reduceAdd, reduceIte, Nat.reduceLeDiff, Nat.reduceBEq, Nat.reduceLT, Nat.reduceSub, Int.reduceLT, Int.reduceLE, Int.reduceEq, Int.reduceToNat, Nat.reduceMul, eq_self, implies_true, forall_const, g20, g23, Mak.andF, q] at hM4 ⊢
          exact ⟨_, _, 2, (wide (by decide) hM4).setOut (fun h => absurd h.1 (by decide)), fail_ok ok0 _, rfl, rfl, left_two ⟨rfl, rfl⟩⟩
      · simp -implicitDefEqProofs only [vqa, Nat.reduceEqDiff, Nat.reduceAdd, reduceIte, Nat.reduceLeDiff, Nat.reduceBEq, Nat.reduceLT, Nat.reduceSub, Int.reduceLT, Int.reduceLE, Int.reduceEq, Int.reduceToNat, Nat.reduceMul, eq_self, implies_true, forall_const]
        have z : ∀ k, k < 3 → f3 k = .int .i64 (t3 nl x k) := fun k hk => hf3 k (by omega)
        refine vAnyT [0, 1, 2, 3, 4, 5, 6] (.step 7 (.step 8 .leaf)) (fun m' => m' 22 = .var V22 [.sl id ver (nl + 3)] ∧ m' id = .row ver 35 1 (nl + 3) f3) (by kernel_rfl) (by kernel_rfl) ⟨f22, fid⟩ ?_
        simp -implicitDefEqProofs only [vqa, Nat.reduceEqDiff, Nat.reduceAdd, reduceIte, Nat.reduceLeDiff, Nat.reduceBEq, Nat.reduceLT, Nat.reduceSub, Int.reduceLT, Int.reduceLE, Int.reduceEq, Int.reduceToNat, Nat.reduceMul, eq_self, implies_true, forall_const, vqt, f22, fid, z 0 (by decide), z 1 (by decide), z 2 (by decide)]
        refine ⟨fun m' hm' => (by rw [hm'.1]; exact ⟨_, rfl, rfl⟩), by omega, fun m' hm' => (by rw [hm'.2]; exact ⟨_, rfl, rfl, by omega⟩), fun m' hm' => (by rw [hm'.2]; exact ⟨(ver = ver ∧ 0 < nl + 3), by simp only [z 0 (by decide)]; rfl, rfl, by omega⟩), fun m' hm' => (by rw [hm'.1]; exact ⟨_, rfl, rfl⟩), by omega, fun m' hm' => (by rw [hm'.2]; exact ⟨_, rfl, rfl, by omega⟩), by omega, fun m' hm' => (by rw [hm'.2]; exact ⟨(ver = ver ∧ 1 < nl + 3), by simp only [z 1 (by decide)]; rfl, rfl, by omega⟩), ?_⟩
        refine CallW.mono (p25 2000 fM ok0 hSb (t3 nl x 0) (t3 nl x 1)) fun r m4 ⟨hr, hM4, hF4⟩ => ?_
        subst hr
        have ns : ∀ i, i < 1000 → m4 i = mm i := fun i hi => hF4 i (by omega) (fun h => by have := h.1; omega)
        have g20 := (ns 20 (by decide)).trans f20
        have g21 := (ns 21 (by decide)).trans f21
        have g22 := (ns 22 (by decide)).trans f22
        have g23 := (ns 23 (by decide)).trans f23
        have gid := (ns id (by omega)).trans fid
        simp -implicitDefEqProofs only [vqa, Nat.reduceEqDiff, Nat.reduceAdd, reduceIte, Nat.reduceLeDiff, Nat.reduceBEq, Nat.reduceLT, Nat.reduceSub, Int.reduceLT, Int.reduceLE, Int.reduceEq, Int.reduceToNat, Nat.reduceMul, eq_self, implies_true, forall_const, vqt, g22, gid]
        refine CallW.mono (p22 (n := 2) (k := (newM ni nr).nodes) g20 g21 g22 g23 gid hf3 (by omega) (by omega) hnd) fun r m5 ⟨hr, hm5⟩ => ?_
        subst hr
        by_cases q : (newM ni nr).two (t3 nl x 0) (t3 nl x 1)
        · have hs : ¬ scan (fun i => badLit (newM ni nr).nodes (t3 nl x i)) 2 ≠ 0 := fun h => by
            obtain ⟨i, hi, hb⟩ := (scan_bad_iff _ _ _).1 h
            rcases (by omega : i = 0 ∨ i = 1) with rfl | rfl
            · exact hb q.1
            · exact hb q.2
          rw [if_neg hs] at hm5
          subst hm5
          simp -implicitDefEqProofs only [vqa, Nat.reduceEqDiff, Nat.reduceAdd, reduceIte, Nat.reduceLeDiff, Nat.reduceBEq, Nat.reduceLT, Nat.reduceSub, Int.reduceLT, Int.reduceLE, Int.reduceEq, Int.reduceToNat, Nat.reduceMul, eq_self, implies_true, forall_const, g20, g23, Mak.orF, q] at hM4 ⊢
          exact ⟨_, _, 0, wide (by decide) hM4, and_ok ok0 _ _, rfl, rfl, .inl ⟨rfl, (and_step gd0 (show (0 : Nat) < 4000 by decide) (bef_not ok0 q.1) (bef_not ok0 q.2)).1.mono (by decide)⟩⟩
        · have hs : scan (fun i => badLit (newM ni nr).nodes (t3 nl x i)) 2 ≠ 0 := (scan_bad_iff _ _ _).2 (Classical.byContradiction fun hc => q ⟨Classical.byContradiction fun hb => hc ⟨0, by decide, hb⟩, Classical.byContradiction fun hb => hc ⟨1, by decide, hb⟩⟩)
          rw [if_pos hs] at hm5
          subst hm5
          simp -implicitDefEqProofs only [vqa, Nat.reduceEqDiff, Nat.reduceAdd, reduceIte, Nat.reduceLeDiff, Nat.reduceBEq, Nat.reduceLT, Nat.reduceSub, Int.reduceLT, Int.reduceLE, Int.reduceEq, Int.reduceToNat, Nat.reduceMul, eq_self, implies_true, forall_const, g20, g23, Mak.orF, q] at hM4 ⊢
          exact ⟨_, _, 2, (wide (by decide) hM4).setOut (fun h => absurd h.1 (by decide)), fail_ok ok0 _, rfl, rfl, left_two ⟨rfl, rfl⟩⟩
      · simp -implicitDefEqProofs only [vqa, Nat.reduceEqDiff, Nat.reduceAdd, reduceIte, Nat.reduceLeDiff, Nat.reduceBEq, Nat.reduceLT, Nat.reduceSub, Int.reduceLT, Int.reduceLE, Int.reduceEq, Int.reduceToNat, Nat.reduceMul, eq_self, implies_true, forall_const]
        have z : ∀ k, k < 3 → f3 k = .int .i64 (t3 nl x k) := fun k hk => hf3 k (by omega)
        refine vAnyT [0, 1, 2, 3, 4, 5, 6] (.step 7 (.step 8 .leaf)) (fun m' => m' 22 = .var V22 [.sl id ver (nl + 3)] ∧ m' id = .row ver 35 1 (nl + 3) f3) (by kernel_rfl) (by kernel_rfl) ⟨f22, fid⟩ ?_
        simp -implicitDefEqProofs only [vqa, Nat.reduceEqDiff, Nat.reduceAdd, reduceIte, Nat.reduceLeDiff, Nat.reduceBEq, Nat.reduceLT, Nat.reduceSub, Int.reduceLT, Int.reduceLE, Int.reduceEq, Int.reduceToNat, Nat.reduceMul, eq_self, implies_true, forall_const, vqt, f22, fid, z 0 (by decide), z 1 (by decide), z 2 (by decide)]
        refine ⟨fun m' hm' => (by rw [hm'.1]; exact ⟨_, rfl, rfl⟩), by omega, fun m' hm' => (by rw [hm'.2]; exact ⟨_, rfl, rfl, by omega⟩), fun m' hm' => (by rw [hm'.2]; exact ⟨(ver = ver ∧ 0 < nl + 3), by simp only [z 0 (by decide)]; rfl, rfl, by omega⟩), fun m' hm' => (by rw [hm'.1]; exact ⟨_, rfl, rfl⟩), by omega, fun m' hm' => (by rw [hm'.2]; exact ⟨_, rfl, rfl, by omega⟩), by omega, fun m' hm' => (by rw [hm'.2]; exact ⟨(ver = ver ∧ 1 < nl + 3), by simp only [z 1 (by decide)]; rfl, rfl, by omega⟩), ?_⟩
        refine CallW.mono (p26 2000 fM ok0 hSb (t3 nl x 0) (t3 nl x 1)) fun r m4 ⟨hr, hM4, hF4⟩ => ?_
        subst hr
        have ns : ∀ i, i < 1000 → m4 i = mm i := fun i hi => hF4 i (by omega) (fun h => by have := h.1; omega)
        have g20 := (ns 20 (by decide)).trans f20
        have g21 := (ns 21 (by decide)).trans f21
        have g22 := (ns 22 (by decide)).trans f22
        have g23 := (ns 23 (by decide)).trans f23
        have gid := (ns id (by omega)).trans fid
        simp -implicitDefEqProofs only [vqa, Nat.reduceEqDiff, Nat.reduceAdd, reduceIte, Nat.reduceLeDiff, Nat.reduceBEq, Nat.reduceLT, Nat.reduceSub, Int.reduceLT, Int.reduceLE, Int.reduceEq, Int.reduceToNat, Nat.reduceMul, eq_self, implies_true, forall_const, vqt, g22, gid]
        refine CallW.mono (p22 (n := 2) (k := (newM ni nr).nodes) g20 g21 g22 g23 gid hf3 (by omega) (by omega) hnd) fun r m5 ⟨hr, hm5⟩ => ?_
        subst hr
        by_cases q : (newM ni nr).two (t3 nl x 0) (t3 nl x 1)
        · have hs : ¬ scan (fun i => badLit (newM ni nr).nodes (t3 nl x i)) 2 ≠ 0 := fun h => by
            obtain ⟨i, hi, hb⟩ := (scan_bad_iff _ _ _).1 h
            rcases (by omega : i = 0 ∨ i = 1) with rfl | rfl
            · exact hb q.1
            · exact hb q.2
          rw [if_neg hs] at hm5
          subst hm5
          simp -implicitDefEqProofs only [vqa, Nat.reduceEqDiff, Nat.reduceAdd, reduceIte, Nat.reduceLeDiff, Nat.reduceBEq, Nat.reduceLT, Nat.reduceSub, Int.reduceLT, Int.reduceLE, Int.reduceEq, Int.reduceToNat, Nat.reduceMul, eq_self, implies_true, forall_const, g20, g23, Mak.xorF, q] at hM4 ⊢
          exact ⟨_, _, 0, wide (by decide) hM4, pair_ok ok0 _ _ _ _, rfl, rfl, .inl ⟨rfl, (pair_step ok0 gd0 (show (0 : Nat) + 3 ≤ 4000 by decide) q.1 (bef_not ok0 q.2) (bef_not ok0 q.1) q.2).1.mono (by decide)⟩⟩
        · have hs : scan (fun i => badLit (newM ni nr).nodes (t3 nl x i)) 2 ≠ 0 := (scan_bad_iff _ _ _).2 (Classical.byContradiction fun hc => q ⟨Classical.byContradiction fun hb => hc ⟨0, by decide, hb⟩, Classical.byContradiction fun hb => hc ⟨1, by decide, hb⟩⟩)
          rw [if_pos hs] at hm5
          subst hm5
          simp -implicitDefEqProofs only [vqa, Nat.reduceEqDiff, Nat.reduceAdd, reduceIte, Nat.reduceLeDiff, Nat.reduceBEq, Nat.reduceLT, Nat.reduceSub, Int.reduceLT, Int.reduceLE, Int.reduceEq, Int.reduceToNat, Nat.reduceMul, eq_self, implies_true, forall_const, g20, g23, Mak.xorF, q] at hM4 ⊢
          exact ⟨_, _, 2, (wide (by decide) hM4).setOut (fun h => absurd h.1 (by decide)), fail_ok ok0 _, rfl, rfl, left_two ⟨rfl, rfl⟩⟩
      · simp -implicitDefEqProofs only [vqa, Nat.reduceEqDiff, Nat.reduceAdd, reduceIte, Nat.reduceLeDiff, Nat.reduceBEq, Nat.reduceLT, Nat.reduceSub, Int.reduceLT, Int.reduceLE, Int.reduceEq, Int.reduceToNat, Nat.reduceMul, eq_self, implies_true, forall_const]
        have z : ∀ k, k < 3 → f3 k = .int .i64 (t3 nl x k) := fun k hk => hf3 k (by omega)
        refine vAnyT [0, 1, 2, 3, 4, 5, 6, 7, 8, 9] (.step 10 (.step 11 .leaf)) (fun m' => m' 22 = .var V22 [.sl id ver (nl + 3)] ∧ m' id = .row ver 35 1 (nl + 3) f3) (by kernel_rfl) (by kernel_rfl) ⟨f22, fid⟩ ?_
        simp -implicitDefEqProofs only [vqa, Nat.reduceEqDiff, Nat.reduceAdd, reduceIte, Nat.reduceLeDiff, Nat.reduceBEq, Nat.reduceLT, Nat.reduceSub, Int.reduceLT, Int.reduceLE, Int.reduceEq, Int.reduceToNat, Nat.reduceMul, eq_self, implies_true, forall_const, vqt, f22, fid, z 0 (by decide), z 1 (by decide), z 2 (by decide)]
        refine ⟨fun m' hm' => (by rw [hm'.1]; exact ⟨_, rfl, rfl⟩), by omega, fun m' hm' => (by rw [hm'.2]; exact ⟨_, rfl, rfl, by omega⟩), fun m' hm' => (by rw [hm'.2]; exact ⟨(ver = ver ∧ 0 < nl + 3), by simp only [z 0 (by decide)]; rfl, rfl, by omega⟩), fun m' hm' => (by rw [hm'.1]; exact ⟨_, rfl, rfl⟩), by omega, fun m' hm' => (by rw [hm'.2]; exact ⟨_, rfl, rfl, by omega⟩), by omega, fun m' hm' => (by rw [hm'.2]; exact ⟨(ver = ver ∧ 1 < nl + 3), by simp only [z 1 (by decide)]; rfl, rfl, by omega⟩), fun m' hm' => (by rw [hm'.1]; exact ⟨_, rfl, rfl⟩), by omega, fun m' hm' => (by rw [hm'.2]; exact ⟨_, rfl, rfl, by omega⟩), by omega, fun m' hm' => (by rw [hm'.2]; exact ⟨(ver = ver ∧ 2 < nl + 3), by simp only [z 2 (by decide)]; rfl, rfl, by omega⟩), ?_⟩
        refine CallW.mono (p27 2000 fM ok0 hSb (t3 nl x 0) (t3 nl x 1) (t3 nl x 2)) fun r m4 ⟨hr, hM4, hF4⟩ => ?_
        subst hr
        have ns : ∀ i, i < 1000 → m4 i = mm i := fun i hi => hF4 i (by omega) (fun h => by have := h.1; omega)
        have g20 := (ns 20 (by decide)).trans f20
        have g21 := (ns 21 (by decide)).trans f21
        have g22 := (ns 22 (by decide)).trans f22
        have g23 := (ns 23 (by decide)).trans f23
        have gid := (ns id (by omega)).trans fid
        simp -implicitDefEqProofs only [vqa, Nat.reduceEqDiff, Nat.reduceAdd, reduceIte, Nat.reduceLeDiff, Nat.reduceBEq, Nat.reduceLT, Nat.reduceSub, Int.reduceLT, Int.reduceLE, Int.reduceEq, Int.reduceToNat, Nat.reduceMul, eq_self, implies_true, forall_const, vqt, g22, gid]
        refine CallW.mono (p22 (n := 3) (k := (newM ni nr).nodes) g20 g21 g22 g23 gid hf3 (by omega) (by omega) hnd) fun r m5 ⟨hr, hm5⟩ => ?_
        subst hr
        by_cases q : (newM ni nr).three (t3 nl x 0) (t3 nl x 1) (t3 nl x 2)
        · have hs : ¬ scan (fun i => badLit (newM ni nr).nodes (t3 nl x i)) 3 ≠ 0 := fun h => by
            obtain ⟨i, hi, hb⟩ := (scan_bad_iff _ _ _).1 h
            rcases (by omega : i = 0 ∨ i = 1 ∨ i = 2) with rfl | rfl | rfl
            · exact hb q.1
            · exact hb q.2.1
            · exact hb q.2.2
          rw [if_neg hs] at hm5
          subst hm5
          simp -implicitDefEqProofs only [vqa, Nat.reduceEqDiff, Nat.reduceAdd, reduceIte, Nat.reduceLeDiff, Nat.reduceBEq, Nat.reduceLT, Nat.reduceSub, Int.reduceLT, Int.reduceLE, Int.reduceEq, Int.reduceToNat, Nat.reduceMul, eq_self, implies_true, forall_const, g20, g23, Mak.muxF, q] at hM4 ⊢
          exact ⟨_, _, 0, wide (by decide) hM4, pair_ok ok0 _ _ _ _, rfl, rfl, .inl ⟨rfl, (pair_step ok0 gd0 (show (0 : Nat) + 3 ≤ 4000 by decide) q.1 q.2.1 (bef_not ok0 q.1) q.2.2).1.mono (by decide)⟩⟩
        · have hs : scan (fun i => badLit (newM ni nr).nodes (t3 nl x i)) 3 ≠ 0 := (scan_bad_iff _ _ _).2 (Classical.byContradiction fun hc => q ⟨Classical.byContradiction fun hb => hc ⟨0, by decide, hb⟩, Classical.byContradiction fun hb => hc ⟨1, by decide, hb⟩, Classical.byContradiction fun hb => hc ⟨2, by decide, hb⟩⟩)
          rw [if_pos hs] at hm5
          subst hm5
          simp -implicitDefEqProofs only [vqa, Nat.reduceEqDiff, Nat.reduceAdd, reduceIte, Nat.reduceLeDiff, Nat.reduceBEq, Nat.reduceLT, Nat.reduceSub, Int.reduceLT, Int.reduceLE, Int.reduceEq, Int.reduceToNat, Nat.reduceMul, eq_self, implies_true, forall_const, g20, g23, Mak.muxF, q] at hM4 ⊢
          exact ⟨_, _, 2, (wide (by decide) hM4).setOut (fun h => absurd h.1 (by decide)), fail_ok ok0 _, rfl, rfl, left_two ⟨rfl, rfl⟩⟩
      · simp -implicitDefEqProofs only [vqa, Nat.reduceEqDiff, Nat.reduceAdd, reduceIte, Nat.reduceLeDiff, Nat.reduceBEq, Nat.reduceLT, Nat.reduceSub, Int.reduceLT, Int.reduceLE, Int.reduceEq, Int.reduceToNat, Nat.reduceMul, eq_self, implies_true, forall_const]
        refine CallW.mono (p28 2000 fM ok0 hSb gd0 (show (0 : Nat) + 189 ≤ 4000 by decide) t ht nl (by omega) x fl (fun i hi => (hfl i hi).1)) fun r m4 ⟨M', l, hr, hM4, ok', hT, hF4⟩ => ?_
        subst hr
        have ns : ∀ i, i < 1000 → m4 i = mm i := fun i hi => hF4 i (by omega) (fun h => by have := h.1; omega)
        have g20 := (ns 20 (by decide)).trans f20
        have g21 := (ns 21 (by decide)).trans f21
        have g23 := (ns 23 (by decide)).trans f23
        have hM5 := wide (by decide) hM4
        simp -implicitDefEqProofs only [vqa, Nat.reduceEqDiff, Nat.reduceAdd, reduceIte, Nat.reduceLeDiff, Nat.reduceBEq, Nat.reduceLT, Nat.reduceSub, Int.reduceLT, Int.reduceLE, Int.reduceEq, Int.reduceToNat, Nat.reduceMul, eq_self, implies_true, forall_const, g20, g21, g23]
        refine ⟨fun a => ?_, fun a => ?_⟩
        · have hl : M' = (newM ni nr).fail 3 ∧ l = 0 := by
            rcases hT with ⟨_, h1, h2⟩ | ⟨h, _⟩ | ⟨h, _⟩
            · exact ⟨h1, h2⟩
            · omega
            · omega
          exact ⟨M', l, 3, hM5.setOut (fun h => absurd h.1 (by decide)), ok', rfl, rfl, .inr ⟨by decide, hl.1, hl.2⟩⟩
        · have hnl6 : nl ≤ 6 := by omega
          refine CallW.fz (p29 t nl ht (by omega)) rfl rfl fun r ⟨T, f, hr, hTl, hf, hTm⟩ => ⟨by subst hr; rfl, ?_⟩
          subst hr
          simp -implicitDefEqProofs only [vqa, Nat.reduceEqDiff, Nat.reduceAdd, reduceIte, Nat.reduceLeDiff, Nat.reduceBEq, Nat.reduceLT, Nat.reduceSub, Int.reduceLT, Int.reduceLE, Int.reduceEq, Int.reduceToNat, Nat.reduceMul, eq_self, implies_true, forall_const, g20, g21, g23]
          refine vFor T.length (fun k e m => e 0 = .fs ni fi ∧ e 1 = .fs nr fr ∧ e 6 = .fs no fo ∧ e 7 = .fs nk fk ∧ e 8 = .fs nn fn ∧ e 5 = .fs nl fl ∧ e 19 = .ptr 1011 v 0 ∧ e 20 = .ptr 20 V20 0 ∧ m 20 = .var V20 [.int .i64 ((newM ni nr).nodes : Nat)] ∧ e 21 = .ptr 21 V21 0 ∧ m 21 = .var V21 [.fn 20 [.ptr 20 V20 0]] ∧ e 23 = .ptr 23 V23 0 ∧ e 25 = .int .i64 l ∧ e 67 = .fs T.length f ∧ e 68 = .int .i64 T.length ∧ e 69 = .int .i64 k ∧ MkA m 1011 v gi gr M' (fun i => 1000 ≤ i ∧ i < 30000) ∧ ∃ w, m 23 = .var V23 [.int .i64 w] ∧ ((w = 0 ∧ ∀ j, j < k → litOk (newM ni nr).nodes (x (T.getD j 0).toNat)) ∨ (w = 2 ∧ ∃ j, j < k ∧ ¬ litOk (newM ni nr).nodes (x (T.getD j 0).toNat)))) ?_ ?_ ?_
          · simp -implicitDefEqProofs only [vqa, Nat.reduceEqDiff, Nat.reduceAdd, reduceIte, Nat.reduceLeDiff, Nat.reduceBEq, Nat.reduceLT, Nat.reduceSub, Int.reduceLT, Int.reduceLE, Int.reduceEq, Int.reduceToNat, Nat.reduceMul, eq_self, implies_true, forall_const, g20, g21, g23]
            exact ⟨hM5, 0, rfl, .inl rfl⟩
          · rintro k e m hk hk' ⟨e0, e1, e6, e7, e8, e5, e19, e20, m20, e21, m21, e23, e25, e67, e68, e69, hMm, w, m23, hw⟩
            obtain ⟨q, hq, hqe, _⟩ := (hTm (T.getD k 0)).1 (by rw [List.getD_eq_getElem?_getD, List.getElem?_eq_getElem hk]; exact List.getElem_mem hk)
            have hfk2 := hf k hk
            rw [hqe] at hfk2
            have hqn : (T.getD k 0).toNat = q := by rw [hqe]; rfl
            have hq' : ((q : Nat) : Int) < (nl : Nat) := by omega
            unfold a4_0
            simp -implicitDefEqProofs only [vqa, Nat.reduceEqDiff, Nat.reduceAdd, reduceIte, Nat.reduceLeDiff, Nat.reduceBEq, Nat.reduceLT, Nat.reduceSub, Int.reduceLT, Int.reduceLE, Int.reduceEq, Int.reduceToNat, Nat.reduceMul, eq_self, implies_true, forall_const, e0, e1, e6, e7, e8, e5, e19, e20, m20, e21, m21, e23, e25, e67, e68, e69, m23, hk', hfk2]
            refine ⟨by omega, ?_⟩
            refine vAny [0, 1, 2, 3, 4, 5] 6 allL (by kernel_rfl) (by kernel_rfl) ?_
            simp -implicitDefEqProofs only [vqa, Nat.reduceEqDiff, Nat.reduceAdd, reduceIte, Nat.reduceLeDiff, Nat.reduceBEq, Nat.reduceLT, Nat.reduceSub, Int.reduceLT, Int.reduceLE, Int.reduceEq, Int.reduceToNat, Nat.reduceMul, eq_self, implies_true, forall_const, e0, e1, e6, e7, e8, e5, e19, e20, m20, e21, m21, e23, e25, e67, e68, e69, m23, hq', (hfl q hq).1]
            refine ⟨by omega, ?_⟩
            refine CallW.sc (p20 (newM ni nr).nodes hnd (x q)) ?_ ?_ fun r hr => ⟨by subst hr; rfl, ?_⟩
            · simp only [rsC, rs2, rs1, rs0, vqa, Nat.reduceEqDiff, Nat.reduceAdd, reduceIte, Nat.reduceLeDiff, Nat.reduceBEq, Nat.reduceLT, Nat.reduceSub, Int.reduceLT, Int.reduceLE, Int.reduceEq, Int.reduceToNat, Nat.reduceMul, eq_self, implies_true, forall_const, m20]
            · simp only [rsC, rs2, rs1, rs0, vqa, Nat.reduceEqDiff, Nat.reduceAdd, reduceIte, Nat.reduceLeDiff, Nat.reduceBEq, Nat.reduceLT, Nat.reduceSub, Int.reduceLT, Int.reduceLE, Int.reduceEq, Int.reduceToNat, Nat.reduceMul, eq_self, implies_true, forall_const, m20]
            subst hr
            by_cases hb : litOk (newM ni nr).nodes (x q)
            · rw [decide_eq_true hb]
              simp -implicitDefEqProofs only [vqa, Nat.reduceEqDiff, Nat.reduceAdd, reduceIte, Nat.reduceLeDiff, Nat.reduceBEq, Nat.reduceLT, Nat.reduceSub, Int.reduceLT, Int.reduceLE, Int.reduceEq, Int.reduceToNat, Nat.reduceMul, eq_self, implies_true, forall_const, e0, e1, e6, e7, e8, e5, e19, e20, m20, e21, m21, e23, e25, e67, e68, e69, m23, Bool.not_true]
              refine ⟨hk, wI (by omega) (by omega), hMm, w, rfl, ?_⟩
              rcases hw with ⟨h1, h2⟩ | ⟨h1, j, h2, h3⟩
              · refine .inl ⟨h1, fun j hj => ?_⟩
                by_cases h : j < k
                · exact h2 j h
                · obtain rfl : j = k := by omega
                  rw [hqn]; exact hb
              · exact .inr ⟨h1, j, by omega, h3⟩
            · rw [decide_eq_false hb]
              simp -implicitDefEqProofs only [vqa, Nat.reduceEqDiff, Nat.reduceAdd, reduceIte, Nat.reduceLeDiff, Nat.reduceBEq, Nat.reduceLT, Nat.reduceSub, Int.reduceLT, Int.reduceLE, Int.reduceEq, Int.reduceToNat, Nat.reduceMul, eq_self, implies_true, forall_const, e0, e1, e6, e7, e8, e5, e19, e20, m20, e21, m21, e23, e25, e67, e68, e69, m23, Bool.not_false]
              exact ⟨hk, wI (by omega) (by omega), hMm.setOut (fun h => absurd h.1 (by decide)), 2, rfl, .inr ⟨rfl, k, by omega, by rw [hqn]; exact hb⟩⟩
          · rintro e m ⟨e0, e1, e6, e7, e8, e5, e19, e20, m20, e21, m21, e23, e25, e67, e68, e69, hMm, w, m23, hw⟩
            unfold a4_0
            simp -implicitDefEqProofs only [vqa, Nat.reduceEqDiff, Nat.reduceAdd, reduceIte, Nat.reduceLeDiff, Nat.reduceBEq, Nat.reduceLT, Nat.reduceSub, Int.reduceLT, Int.reduceLE, Int.reduceEq, Int.reduceToNat, Nat.reduceMul, eq_self, implies_true, forall_const, e0, e1, e6, e7, e8, e5, e19, e20, m20, e21, m21, e23, e25, e67, e68, e69, m23]
            refine ⟨M', l, w, hMm, ok', rfl, rfl, ?_⟩
            rcases hT with ⟨h, _⟩ | ⟨_, ⟨i, hi, hd, hb⟩, h1, h2⟩ | ⟨_, hall, hs, _⟩
            · omega
            · rcases hw with ⟨_, h3⟩ | ⟨h3, _⟩
              · exfalso
                have hm := (hTm ((i : Nat) : Int)).2 ⟨i, hi, rfl, hd⟩
                obtain ⟨k, hk, hke⟩ := List.mem_iff_getElem.1 hm
                have := h3 k hk
                rw [List.getD_eq_getElem?_getD, List.getElem?_eq_getElem hk, Option.getD_some, hke] at this
                exact hb this
              · exact .inr ⟨by rw [h3]; decide, by rw [h3]; exact h1, h2⟩
            · rcases hw with ⟨h3, _⟩ | ⟨_, j, hj, hb⟩
              · exact .inl ⟨h3, hs⟩
              · exfalso
                obtain ⟨q, hq, hqe, hd⟩ := (hTm (T.getD j 0)).1 (by rw [List.getD_eq_getElem?_getD, List.getElem?_eq_getElem hj]; exact List.getElem_mem hj)
                rw [hqe] at hb
                exact hb (hall q hq hd)
    · rintro e m ⟨e0, e1, e6, e7, e8, e19, e20, m20, e23, M', got, want, hMm, okM, e25, m23, hL⟩
      have hni : M'.ni = ni := by
        rcases hL with ⟨_, h⟩ | ⟨_, h, _⟩
        · exact h.ni
        · rw [h]; rfl
      have hnr : M'.nr = nr := by
        rcases hL with ⟨_, h⟩ | ⟨_, h, _⟩
        · exact h.nr
        · rw [h]; rfl
      have hn9 : M'.n ≤ 189 := by
        rcases hL with ⟨_, h⟩ | ⟨_, h, _⟩
        · have := h.hi
          have e : (newM ni nr).n = 0 := rfl
          omega
        · rw [h]; exact Nat.zero_le _
      have hgood : M'.Good := by
        rcases hL with ⟨_, h⟩ | ⟨_, h, _⟩
        · exact h.good
        · rw [h]; exact fun k hk => absurd hk (Nat.not_lt_zero _)
      have hsub : IntKind.i64.wrap (((M'.nodes : Nat) : Int) - ((newM ni nr).nodes : Nat)) = (M'.n : Nat) := by
        have e1 : M'.nodes = 1 + M'.ni + M'.nr + M'.n := rfl
        have e2 : (newM ni nr).nodes = 1 + ni + nr + 0 := rfl
        rw [wI (by omega) (by omega)]; omega
      have l64 : ∀ (i : Nat) (l : Int), i < M'.n → litOk (M'.base + i) l → L64 l := fun i l hi h => by
        obtain ⟨q1, q2⟩ := h
        have e1 : M'.base = 1 + M'.ni + M'.nr := rfl
        have := okM.ni; have := okM.nr
        unfold L64; omega
      have gok : (M'.gra nin rg no out nk outs (fun i => (rg i).next)).Ok := ⟨okM.ni, h3, okM.nr, by show M'.n ≤ _; omega, h4, fun i hi => (hfi i (hni ▸ hi)).2, fun i hi => (hfo i hi).2, fun i hi => ⟨(hfr i (hnr ▸ hi)).2.1, (hfr i (hnr ▸ hi)).2.2⟩, fun i hi => l64 i _ hi (hgood i hi).1, fun i hi => l64 i _ hi (hgood i hi).2, fun i hi => (hfk i hi).2⟩
      simp -implicitDefEqProofs only [vqa, Nat.reduceEqDiff, Nat.reduceAdd, reduceIte, Nat.reduceLeDiff, Nat.reduceBEq, Nat.reduceLT, Nat.reduceSub, Int.reduceLT, Int.reduceLE, Int.reduceEq, Int.reduceToNat, Nat.reduceMul, eq_self, implies_true, forall_const, e0, e1, e6, e7, e8, e19, e20, m20, e23, e25, m23]
      refine vAny [0, 2, 1, 3, 4] 5 allL (by kernel_rfl) (by kernel_rfl) ?_
      simp -implicitDefEqProofs only [vqa, Nat.reduceEqDiff, Nat.reduceAdd, reduceIte, Nat.reduceLeDiff, Nat.reduceBEq, Nat.reduceLT, Nat.reduceSub, Int.reduceLT, Int.reduceLE, Int.reduceEq, Int.reduceToNat, Nat.reduceMul, eq_self, implies_true, forall_const, e0, e1, e6, e7, e8, e19, e20, m20, e23, e25, m23]
      refine CallW.mono (p13 hMm okM) fun r mm1 ⟨hr, hm1⟩ => ?_
      subst hr; subst hm1
      simp -implicitDefEqProofs only [vqa, Nat.reduceEqDiff, Nat.reduceAdd, reduceIte, Nat.reduceLeDiff, Nat.reduceBEq, Nat.reduceLT, Nat.reduceSub, Int.reduceLT, Int.reduceLE, Int.reduceEq, Int.reduceToNat, Nat.reduceMul, eq_self, implies_true, forall_const, e0, e1, e6, e7, e8, e19, e20, m20, e23, e25, m23, hsub]
      refine CallW.mono (p15 40000 hMm okM (fun i hi => by have := hi.2; omega) (nin := nin) (rg := rg) (out := out) (outs := outs) (nx := nx) (fun i hi => by rw [hgi i (hni ▸ hi), (hfi i (hni ▸ hi)).1]) (fun i hi => by rw [hgr i (hnr ▸ hi), (hfr i (hnr ▸ hi)).1]) (fun i hi => (hfo i hi).1) (fun i hi => (hfk i hi).1) (fun i hi => (hfn i hi).1) gok (fun i hi => (hfn i hi).2) h5) fun r m6 ⟨hcase, hFr⟩ => ?_
      have g23 := (hFr 23 (by decide) (fun h => absurd h.1 (by decide))).trans m23
      obtain ⟨o41, ho41⟩ : ∃ o, m6 41101 = o := ⟨_, rfl⟩
      rcases hcase with ⟨hE, hr⟩ | ⟨hE, a0, a1, rv, a3, a4, hr, q0, q1, q3, q4, hR⟩
      · rcases hL with ⟨hw0, hs⟩ | ⟨hw0, hMf, hg0⟩
        · subst hw0
          subst hr
          simp -implicitDefEqProofs only [vqa, Nat.reduceEqDiff, Nat.reduceAdd, reduceIte, Nat.reduceLeDiff, Nat.reduceBEq, Nat.reduceLT, Nat.reduceSub, Int.reduceLT, Int.reduceLE, Int.reduceEq, Int.reduceToNat, Nat.reduceMul, eq_self, implies_true, forall_const, e0, e1, e6, e7, e8, e23, e25, g23]
          generalize (m6 29).ver + 1 = V29
          refine ⟨fun a => ⟨fun b => ?_, fun b => absurd b (by omega)⟩, fun a => absurd a (by omega)⟩
          refine ⟨⟨by omega, by omega, by omega, by omega⟩, ?_⟩
          generalize (m6 187).ver + 1 = V187
          generalize (m6 31).ver + 1 = V31
          generalize hz187 : (fun _ : Nat => AV.agg [.int .i64 0, .int .i64 0]) = z187
          refine vFor nr (fun i e m => e 0 = .fs ni fi ∧ e 1 = .fs nr fr ∧ e 6 = .fs no fo ∧ e 7 = .fs nk fk ∧ e 8 = .fs nn fn ∧ e 23 = .ptr 23 V23 0 ∧ m 23 = .var V23 [.int .i64 0] ∧ e 28 = .int .i64 (M'.n : Nat) ∧ e 29 = .ptr 29 V29 0 ∧ m 29 = .var V29 [.cap0, .cap0, .cap0, .cap0, .cap0] ∧ e 30 = .int .i64 (M'.graF nn (M'.gra nin rg no out nk outs nx)) ∧ e 31 = .ptr 31 V31 0 ∧ m 187 = .row V187 103 2 M'.n z187 ∧ m 41101 = o41 ∧ e 189 = .fs nr fr ∧ e 190 = .int .i64 nr ∧ e 191 = .int .i64 i ∧ ∃ hv, m 31 = .var V31 [.fs ni fi, .fs no fo, hv, .sl 187 V187 M'.n, .fs nk fk] ∧ Acc 209 37 3 i (fun k a => a = (⟨(rg k).name, if k < nn then nx k else (rg k).next, (rg k).init⟩ : RegV).av) hv m) ?_ ?_ ?_
          · simp -implicitDefEqProofs only [vqa, Nat.reduceEqDiff, Nat.reduceAdd, reduceIte, Nat.reduceLeDiff, Nat.reduceBEq, Nat.reduceLT, Nat.reduceSub, Int.reduceLT, Int.reduceLE, Int.reduceEq, Int.reduceToNat, Nat.reduceMul, eq_self, implies_true, forall_const, e0, e1, e6, e7, e8, e23, e25, g23, ho41]
            exact ⟨_, rfl, .none⟩
          · rintro i e m hi hi' ⟨e0, e1, e6, e7, e8, e23, m23, e28, e29, m29, e30, e31, m187, m41, e189, e190, e191, hv, m31, hA⟩
            unfold a4_1
            have hri : fr i = .agg [.str (rg i).name, .int .i64 (rg i).next, .bool (rg i).init] := (hfr i hi).1
            by_cases hnn : i < nn
            · have hnn' : ((i : Nat) : Int) < (nn : Nat) := by omega
              rcases hA with ⟨rfl, rfl⟩ | ⟨ver, g, rfl, m209, hg⟩
              · have hi0 : (0 : Int) < (nr : Nat) := by omega
                have hnn0 : (0 : Int) < (nn : Nat) := by omega
                simp -implicitDefEqProofs only [vqa, Nat.reduceEqDiff, Nat.reduceAdd, reduceIte, Nat.reduceLeDiff, Nat.reduceBEq, Nat.reduceLT, Nat.reduceSub, Int.reduceLT, Int.reduceLE, Int.reduceEq, Int.reduceToNat, Nat.reduceMul, eq_self, implies_true, forall_const, e0, e1, e6, e7, e8, e23, m23, e28, e29, m29, e30, e31, m187, m41, e189, e190, e191, m31, hi', hri, hnn', (hfn 0 hnn).1, hi0, hnn0]
                refine ⟨hi, by decide, _, rfl, .inr ⟨_, _, rfl, (set_ne (show (209 : Nat) ≠ 31 by decide) _ _).trans (set_same _ _ _), fun k hk => ?_⟩⟩
                obtain rfl : k = 0 := by omega
                show _ = RegV.av ⟨_, if 0 < nn then _ else _, _⟩; rw [if_pos hnn]; rfl
              · simp -implicitDefEqProofs only [vqa, Nat.reduceEqDiff, Nat.reduceAdd, reduceIte, Nat.reduceLeDiff, Nat.reduceBEq, Nat.reduceLT, Nat.reduceSub, Int.reduceLT, Int.reduceLE, Int.reduceEq, Int.reduceToNat, Nat.reduceMul, eq_self, implies_true, forall_const, e0, e1, e6, e7, e8, e23, m23, e28, e29, m29, e30, e31, m187, m41, e189, e190, e191, m31, hi', hri, hnn', (hfn i hnn).1, m209]
                refine ⟨by omega, by omega, by omega, hi, wI (by omega) (by omega), _, rfl, .inr ⟨_, _, rfl, (set_ne (show (209 : Nat) ≠ 31 by decide) _ _).trans (set_same _ _ _), pushF (p := fun k => (⟨(rg k).name, if k < nn then nx k else (rg k).next, (rg k).init⟩ : RegV).av) hg ?_⟩⟩
                show _ = RegV.av ⟨_, if i < nn then _ else _, _⟩; rw [if_pos hnn]; rfl
            · have hnn' : ¬ ((i : Nat) : Int) < (nn : Nat) := by omega
              rcases hA with ⟨rfl, rfl⟩ | ⟨ver, g, rfl, m209, hg⟩
              · have hi0 : (0 : Int) < (nr : Nat) := by omega
                have hnn0 : ¬ (0 : Int) < (nn : Nat) := by omega
                simp -implicitDefEqProofs only [vqa, Nat.reduceEqDiff, Nat.reduceAdd, reduceIte, Nat.reduceLeDiff, Nat.reduceBEq, Nat.reduceLT, Nat.reduceSub, Int.reduceLT, Int.reduceLE, Int.reduceEq, Int.reduceToNat, Nat.reduceMul, eq_self, implies_true, forall_const, e0, e1, e6, e7, e8, e23, m23, e28, e29, m29, e30, e31, m187, m41, e189, e190, e191, m31, hi', hri, hnn', hi0, hnn0]
                refine ⟨hi, by decide, _, rfl, .inr ⟨_, _, rfl, (set_ne (show (209 : Nat) ≠ 31 by decide) _ _).trans (set_same _ _ _), fun k hk => ?_⟩⟩
                obtain rfl : k = 0 := by omega
                show _ = RegV.av ⟨_, if 0 < nn then _ else _, _⟩; rw [if_neg hnn]; rfl
              · simp -implicitDefEqProofs only [vqa, Nat.reduceEqDiff, Nat.reduceAdd, reduceIte, Nat.reduceLeDiff, Nat.reduceBEq, Nat.reduceLT, Nat.reduceSub, Int.reduceLT, Int.reduceLE, Int.reduceEq, Int.reduceToNat, Nat.reduceMul, eq_self, implies_true, forall_const, e0, e1, e6, e7, e8, e23, m23, e28, e29, m29, e30, e31, m187, m41, e189, e190, e191, m31, hi', hri, hnn', m209]
                refine ⟨by omega, by omega, hi, wI (by omega) (by omega), _, rfl, .inr ⟨_, _, rfl, (set_ne (show (209 : Nat) ≠ 31 by decide) _ _).trans (set_same _ _ _), pushF (p := fun k => (⟨(rg k).name, if k < nn then nx k else (rg k).next, (rg k).init⟩ : RegV).av) hg ?_⟩⟩
                show _ = RegV.av ⟨_, if i < nn then _ else _, _⟩; rw [if_neg hnn]; rfl
          · rintro e m ⟨e0, e1, e6, e7, e8, e23, m23, e28, e29, m29, e30, e31, m187, m41, e189, e190, e191, hv, m31, hA⟩
            unfold a4_1
            have hb0 : ¬ M'.bad ≠ 0 := fun h => h hs.bad
            by_cases hnn : nn = nr
            · have hE1 : (M'.graF nn (M'.gra nin rg no out nk outs nx)) = graphF (M'.gra nin rg no out nk outs nx) := by unfold Mak.graF; rw [if_neg hb0, if_neg (by omega)]
              have hGF : CallW PP 16 [.agg [.fs ni fi, .fs no fo, hv, .sl 187 V187 M'.n, .fs nk fk]] m fun r m' => r = .int .i64 (M'.graF nn (M'.gra nin rg no out nk outs nx)) ∧ m' = m := by
                have okH : (M'.graZ nin rg no out nk outs nx).Ok := ⟨gok.ni, gok.no, gok.nr, gok.na, gok.nk, gok.inn, gok.out, fun i hi => ⟨(gok.reg i hi).1, (hfn i (by rw [hnn, ← hnr]; exact hi)).2⟩, fun _ _ => (show L64 0 from ⟨by decide, by decide⟩), fun _ _ => (show L64 0 from ⟨by decide, by decide⟩), gok.outs⟩
                have eH : graphF (M'.graZ nin rg no out nk outs nx) = (M'.graF nn (M'.gra nin rg no out nk outs nx)) := by
                  rw [hE1]
                  exact graphF_ands (fun i hi => hgood i hi) (fun i hi => by show litOk (1 + _ + _ + i) 0 ∧ litOk (1 + _ + _ + i) 0; unfold litOk; omega)
                have cH : ∀ gg : Nat → AV, (∀ k, k < nr → gg k = (⟨(rg k).name, if k < nn then nx k else (rg k).next, (rg k).init⟩ : RegV).av) → GraC [.fs ni fi, .fs no fo, .fs nr gg, .fs M'.n z187, .fs nk fk] (M'.graZ nin rg no out nk outs nx) := fun gg hgg => by
                  have : GraC [.fs M'.ni fi, .fs no fo, .fs M'.nr gg, .fs M'.n z187, .fs nk fk] (M'.graZ nin rg no out nk outs nx) := ⟨fi, fo, gg, z187, fk, rfl, fun i hi => (hfi i (hni ▸ hi)).1, fun i hi => (hfo i hi).1, fun i hi => by rw [hgg i (hnr ▸ hi), if_pos (by rw [hnn, ← hnr]; exact hi)]; rfl, fun i hi => by rw [← hz187]; rfl, fun i hi => (hfk i hi).1⟩
                  rw [hni, hnr] at this
                  exact this
                rcases hA with ⟨hz, rfl⟩ | ⟨ver, g, rfl, m209, hg⟩
                · have c0 := cH (fun _ => .undef) (fun k hk => absurd hk (by omega))
                  rw [hz] at c0
                  refine CallW.sc (p16 c0 okH) ?_ ?_ fun r hr => ⟨by subst hr; rfl, by rw [hr, eH], rfl⟩
                  · simp only [rsC, rs2, rs1, rs0, vqa, Nat.reduceEqDiff, Nat.reduceAdd, reduceIte, Nat.reduceLeDiff, Nat.reduceBEq, Nat.reduceLT, Nat.reduceSub, Int.reduceLT, Int.reduceLE, Int.reduceEq, Int.reduceToNat, Nat.reduceMul, eq_self, implies_true, forall_const, m187]
                  · simp only [rsC, rs2, rs1, rs0, vqa, Nat.reduceEqDiff, Nat.reduceAdd, reduceIte, Nat.reduceLeDiff, Nat.reduceBEq, Nat.reduceLT, Nat.reduceSub, Int.reduceLT, Int.reduceLE, Int.reduceEq, Int.reduceToNat, Nat.reduceMul, eq_self, implies_true, forall_const, m187]
                · refine CallW.sc (p16 (cH g hg) okH) ?_ ?_ fun r hr => ⟨by subst hr; rfl, by rw [hr, eH], rfl⟩
                  · simp only [rsC, rs2, rs1, rs0, vqa, Nat.reduceEqDiff, Nat.reduceAdd, reduceIte, Nat.reduceLeDiff, Nat.reduceBEq, Nat.reduceLT, Nat.reduceSub, Int.reduceLT, Int.reduceLE, Int.reduceEq, Int.reduceToNat, Nat.reduceMul, eq_self, implies_true, forall_const, m187, m209]
                  · simp only [rsC, rs2, rs1, rs0, vqa, Nat.reduceEqDiff, Nat.reduceAdd, reduceIte, Nat.reduceLeDiff, Nat.reduceBEq, Nat.reduceLT, Nat.reduceSub, Int.reduceLT, Int.reduceLE, Int.reduceEq, Int.reduceToNat, Nat.reduceMul, eq_self, implies_true, forall_const, m187, m209]
              have hnn' : ((nn : Nat) : Int) = (nr : Nat) := by omega
              simp -implicitDefEqProofs only [vqa, Nat.reduceEqDiff, Nat.reduceAdd, reduceIte, Nat.reduceLeDiff, Nat.reduceBEq, Nat.reduceLT, Nat.reduceSub, Int.reduceLT, Int.reduceLE, Int.reduceEq, Int.reduceToNat, Nat.reduceMul, eq_self, implies_true, forall_const, e0, e1, e6, e7, e8, e23, m23, e28, e29, m29, e30, e31, m187, m41, e189, e190, e191, m31, hnn']
              refine CallW.mono hGF fun r m7 ⟨hr, hm7⟩ => ?_
              subst hr; subst hm7
              generalize (M'.graF nn (M'.gra nin rg no out nk outs nx)) = E at hE e30 ⊢
              simp -implicitDefEqProofs only [vqa, Nat.reduceEqDiff, Nat.reduceAdd, reduceIte, Nat.reduceLeDiff, Nat.reduceBEq, Nat.reduceLT, Nat.reduceSub, Int.reduceLT, Int.reduceLE, Int.reduceEq, Int.reduceToNat, Nat.reduceMul, eq_self, implies_true, forall_const, e0, e1, e6, e7, e8, e23, m23, e28, e29, m29, e30, e31, m187, m41, e189, e190, e191, m31, hE]
              refine CallW.sc (p30 (nilG_c (fun _ => .undef) (fun _ => .undef) (fun _ => .undef) (fun _ => .undef) (fun _ => .undef)) nilG_ok (nilG_c (fun _ => .undef) (fun _ => .undef) (fun _ => .undef) (fun _ => .undef) (fun _ => .undef)) nilG_ok) ?_ ?_ fun r ⟨b, hr, hb⟩ => ⟨by subst hr; rfl, ?_⟩
              · simp only [rsC, rs2, rs1, rs0, vqa, Nat.reduceEqDiff, Nat.reduceAdd, reduceIte, Nat.reduceLeDiff, Nat.reduceBEq, Nat.reduceLT, Nat.reduceSub, Int.reduceLT, Int.reduceLE, Int.reduceEq, Int.reduceToNat, Nat.reduceMul, eq_self, implies_true, forall_const] <;> rfl
              · simp only [rsC, rs2, rs1, rs0, vqa, Nat.reduceEqDiff, Nat.reduceAdd, reduceIte, Nat.reduceLeDiff, Nat.reduceBEq, Nat.reduceLT, Nat.reduceSub, Int.reduceLT, Int.reduceLE, Int.reduceEq, Int.reduceToNat, Nat.reduceMul, eq_self, implies_true, forall_const] <;> trivial
              subst hr
              obtain rfl : b = true := hb.2 (sameG_refl _)
              simp -implicitDefEqProofs only [vqa, Nat.reduceEqDiff, Nat.reduceAdd, reduceIte, Nat.reduceLeDiff, Nat.reduceBEq, Nat.reduceLT, Nat.reduceSub, Int.reduceLT, Int.reduceLE, Int.reduceEq, Int.reduceToNat, Nat.reduceMul, eq_self, implies_true, forall_const]
            · have hE1 : (M'.graF nn (M'.gra nin rg no out nk outs nx)) = 4 := by unfold Mak.graF; rw [if_neg hb0, if_pos (by omega)]
              rw [hE1] at e30
              have hnn' : ¬ ((nn : Nat) : Int) = (nr : Nat) := by omega
              simp -implicitDefEqProofs only [vqa, Nat.reduceEqDiff, Nat.reduceAdd, reduceIte, Nat.reduceLeDiff, Nat.reduceBEq, Nat.reduceLT, Nat.reduceSub, Int.reduceLT, Int.reduceLE, Int.reduceEq, Int.reduceToNat, Nat.reduceMul, eq_self, implies_true, forall_const, e0, e1, e6, e7, e8, e23, m23, e28, e29, m29, e30, e31, m187, m41, e189, e190, e191, m31, hnn']
              refine CallW.sc (p30 (nilG_c (fun _ => .undef) (fun _ => .undef) (fun _ => .undef) (fun _ => .undef) (fun _ => .undef)) nilG_ok (nilG_c (fun _ => .undef) (fun _ => .undef) (fun _ => .undef) (fun _ => .undef) (fun _ => .undef)) nilG_ok) ?_ ?_ fun r ⟨b, hr, hb⟩ => ⟨by subst hr; rfl, ?_⟩
              · simp only [rsC, rs2, rs1, rs0, vqa, Nat.reduceEqDiff, Nat.reduceAdd, reduceIte, Nat.reduceLeDiff, Nat.reduceBEq, Nat.reduceLT, Nat.reduceSub, Int.reduceLT, Int.reduceLE, Int.reduceEq, Int.reduceToNat, Nat.reduceMul, eq_self, implies_true, forall_const] <;> rfl
              · simp only [rsC, rs2, rs1, rs0, vqa, Nat.reduceEqDiff, Nat.reduceAdd, reduceIte, Nat.reduceLeDiff, Nat.reduceBEq, Nat.reduceLT, Nat.reduceSub, Int.reduceLT, Int.reduceLE, Int.reduceEq, Int.reduceToNat, Nat.reduceMul, eq_self, implies_true, forall_const] <;> trivial
              subst hr
              obtain rfl : b = true := hb.2 (sameG_refl _)
              simp -implicitDefEqProofs only [vqa, Nat.reduceEqDiff, Nat.reduceAdd, reduceIte, Nat.reduceLeDiff, Nat.reduceBEq, Nat.reduceLT, Nat.reduceSub, Int.reduceLT, Int.reduceLE, Int.reduceEq, Int.reduceToNat, Nat.reduceMul, eq_self, implies_true, forall_const]
        · subst hg0
          subst hr
          simp -implicitDefEqProofs only [vqa, Nat.reduceEqDiff, Nat.reduceAdd, reduceIte, Nat.reduceLeDiff, Nat.reduceBEq, Nat.reduceLT, Nat.reduceSub, Int.reduceLT, Int.reduceLE, Int.reduceEq, Int.reduceToNat, Nat.reduceMul, eq_self, implies_true, forall_const, e0, e1, e6, e7, e8, e23, e25, g23, hw0]
          generalize (m6 29).ver + 1 = V29
          refine ⟨fun a => ⟨fun b => ?_, fun b => absurd b (by omega)⟩, fun a => absurd a (by omega)⟩
          refine ⟨⟨by omega, by omega, by omega, by omega⟩, ?_⟩
          generalize (m6 187).ver + 1 = V187
          generalize (m6 31).ver + 1 = V31
          generalize hz187 : (fun _ : Nat => AV.agg [.int .i64 0, .int .i64 0]) = z187
          refine vFor nr (fun i e m => e 0 = .fs ni fi ∧ e 1 = .fs nr fr ∧ e 6 = .fs no fo ∧ e 7 = .fs nk fk ∧ e 8 = .fs nn fn ∧ e 23 = .ptr 23 V23 0 ∧ m 23 = .var V23 [.int .i64 want] ∧ e 28 = .int .i64 (M'.n : Nat) ∧ e 29 = .ptr 29 V29 0 ∧ m 29 = .var V29 [.cap0, .cap0, .cap0, .cap0, .cap0] ∧ e 30 = .int .i64 (M'.graF nn (M'.gra nin rg no out nk outs nx)) ∧ e 31 = .ptr 31 V31 0 ∧ m 187 = .row V187 103 2 M'.n z187 ∧ m 41101 = o41 ∧ e 189 = .fs nr fr ∧ e 190 = .int .i64 nr ∧ e 191 = .int .i64 i ∧ ∃ hv, m 31 = .var V31 [.fs ni fi, .fs no fo, hv, .sl 187 V187 M'.n, .fs nk fk] ∧ Acc 209 37 3 i (fun k a => a = (⟨(rg k).name, if k < nn then nx k else (rg k).next, (rg k).init⟩ : RegV).av) hv m) ?_ ?_ ?_
          · simp -implicitDefEqProofs only [vqa, Nat.reduceEqDiff, Nat.reduceAdd, reduceIte, Nat.reduceLeDiff, Nat.reduceBEq, Nat.reduceLT, Nat.reduceSub, Int.reduceLT, Int.reduceLE, Int.reduceEq, Int.reduceToNat, Nat.reduceMul, eq_self, implies_true, forall_const, e0, e1, e6, e7, e8, e23, e25, g23, hw0, ho41]
            exact ⟨_, rfl, .none⟩
          · rintro i e m hi hi' ⟨e0, e1, e6, e7, e8, e23, m23, e28, e29, m29, e30, e31, m187, m41, e189, e190, e191, hv, m31, hA⟩
            unfold a4_1
            have hri : fr i = .agg [.str (rg i).name, .int .i64 (rg i).next, .bool (rg i).init] := (hfr i hi).1
            by_cases hnn : i < nn
            · have hnn' : ((i : Nat) : Int) < (nn : Nat) := by omega
              rcases hA with ⟨rfl, rfl⟩ | ⟨ver, g, rfl, m209, hg⟩
              · have hi0 : (0 : Int) < (nr : Nat) := by omega
                have hnn0 : (0 : Int) < (nn : Nat) := by omega
                simp -implicitDefEqProofs only [vqa, Nat.reduceEqDiff, Nat.reduceAdd, reduceIte, Nat.reduceLeDiff, Nat.reduceBEq, Nat.reduceLT, Nat.reduceSub, Int.reduceLT, Int.reduceLE, Int.reduceEq, Int.reduceToNat, Nat.reduceMul, eq_self, implies_true, forall_const, e0, e1, e6, e7, e8, e23, m23, e28, e29, m29, e30, e31, m187, m41, e189, e190, e191, m31, hw0, hi', hri, hnn', (hfn 0 hnn).1, hi0, hnn0]
                refine ⟨hi, by decide, _, rfl, .inr ⟨_, _, rfl, (set_ne (show (209 : Nat) ≠ 31 by decide) _ _).trans (set_same _ _ _), fun k hk => ?_⟩⟩
                obtain rfl : k = 0 := by omega
                show _ = RegV.av ⟨_, if 0 < nn then _ else _, _⟩; rw [if_pos hnn]; rfl
              · simp -implicitDefEqProofs only [vqa, Nat.reduceEqDiff, Nat.reduceAdd, reduceIte, Nat.reduceLeDiff, Nat.reduceBEq, Nat.reduceLT, Nat.reduceSub, Int.reduceLT, Int.reduceLE, Int.reduceEq, Int.reduceToNat, Nat.reduceMul, eq_self, implies_true, forall_const, e0, e1, e6, e7, e8, e23, m23, e28, e29, m29, e30, e31, m187, m41, e189, e190, e191, m31, hw0, hi', hri, hnn', (hfn i hnn).1, m209]
                refine ⟨by omega, by omega, by omega, hi, wI (by omega) (by omega), _, rfl, .inr ⟨_, _, rfl, (set_ne (show (209 : Nat) ≠ 31 by decide) _ _).trans (set_same _ _ _), pushF (p := fun k => (⟨(rg k).name, if k < nn then nx k else (rg k).next, (rg k).init⟩ : RegV).av) hg ?_⟩⟩
                show _ = RegV.av ⟨_, if i < nn then _ else _, _⟩; rw [if_pos hnn]; rfl
            · have hnn' : ¬ ((i : Nat) : Int) < (nn : Nat) := by omega
              rcases hA with ⟨rfl, rfl⟩ | ⟨ver, g, rfl, m209, hg⟩
              · have hi0 : (0 : Int) < (nr : Nat) := by omega
                have hnn0 : ¬ (0 : Int) < (nn : Nat) := by omega
                simp -implicitDefEqProofs only [vqa, Nat.reduceEqDiff, Nat.reduceAdd, reduceIte, Nat.reduceLeDiff, Nat.reduceBEq, Nat.reduceLT, Nat.reduceSub, Int.reduceLT, Int.reduceLE, Int.reduceEq, Int.reduceToNat, Nat.reduceMul, eq_self, implies_true, forall_const, e0, e1, e6, e7, e8, e23, m23, e28, e29, m29, e30, e31, m187, m41, e189, e190, e191, m31, hw0, hi', hri, hnn', hi0, hnn0]
                refine ⟨hi, by decide, _, rfl, .inr ⟨_, _, rfl, (set_ne (show (209 : Nat) ≠ 31 by decide) _ _).trans (set_same _ _ _), fun k hk => ?_⟩⟩
                obtain rfl : k = 0 := by omega
                show _ = RegV.av ⟨_, if 0 < nn then _ else _, _⟩; rw [if_neg hnn]; rfl
              · simp -implicitDefEqProofs only [vqa, Nat.reduceEqDiff, Nat.reduceAdd, reduceIte, Nat.reduceLeDiff, Nat.reduceBEq, Nat.reduceLT, Nat.reduceSub, Int.reduceLT, Int.reduceLE, Int.reduceEq, Int.reduceToNat, Nat.reduceMul, eq_self, implies_true, forall_const, e0, e1, e6, e7, e8, e23, m23, e28, e29, m29, e30, e31, m187, m41, e189, e190, e191, m31, hw0, hi', hri, hnn', m209]
                refine ⟨by omega, by omega, hi, wI (by omega) (by omega), _, rfl, .inr ⟨_, _, rfl, (set_ne (show (209 : Nat) ≠ 31 by decide) _ _).trans (set_same _ _ _), pushF (p := fun k => (⟨(rg k).name, if k < nn then nx k else (rg k).next, (rg k).init⟩ : RegV).av) hg ?_⟩⟩
                show _ = RegV.av ⟨_, if i < nn then _ else _, _⟩; rw [if_neg hnn]; rfl
          · rintro e m ⟨e0, e1, e6, e7, e8, e23, m23, e28, e29, m29, e30, e31, m187, m41, e189, e190, e191, hv, m31, hA⟩
            unfold a4_1
            have hEw : (M'.graF nn (M'.gra nin rg no out nk outs nx)) = want := by
              have hb : M'.bad = want := by rw [hMf]; show (if (0 : Int) = 0 then want else 0) = want; exact if_pos rfl
              unfold Mak.graF
              rw [if_pos (by rw [hb]; exact hw0), hb]
            rw [hEw] at e30
            simp -implicitDefEqProofs only [vqa, Nat.reduceEqDiff, Nat.reduceAdd, reduceIte, Nat.reduceLeDiff, Nat.reduceBEq, Nat.reduceLT, Nat.reduceSub, Int.reduceLT, Int.reduceLE, Int.reduceEq, Int.reduceToNat, Nat.reduceMul, eq_self, implies_true, forall_const, e0, e1, e6, e7, e8, e23, m23, e28, e29, m29, e30, e31, m187, m41, e189, e190, e191, m31, hw0]
            refine CallW.sc (p30 (nilG_c (fun _ => .undef) (fun _ => .undef) (fun _ => .undef) (fun _ => .undef) (fun _ => .undef)) nilG_ok (nilG_c (fun _ => .undef) (fun _ => .undef) (fun _ => .undef) (fun _ => .undef) (fun _ => .undef)) nilG_ok) ?_ ?_ fun r ⟨b, hr, hb⟩ => ⟨by subst hr; rfl, ?_⟩
            · simp only [rsC, rs2, rs1, rs0, vqa, Nat.reduceEqDiff, Nat.reduceAdd, reduceIte, Nat.reduceLeDiff, Nat.reduceBEq, Nat.reduceLT, Nat.reduceSub, Int.reduceLT, Int.reduceLE, Int.reduceEq, Int.reduceToNat, Nat.reduceMul, eq_self, implies_true, forall_const] <;> rfl
            · simp only [rsC, rs2, rs1, rs0, vqa, Nat.reduceEqDiff, Nat.reduceAdd, reduceIte, Nat.reduceLeDiff, Nat.reduceBEq, Nat.reduceLT, Nat.reduceSub, Int.reduceLT, Int.reduceLE, Int.reduceEq, Int.reduceToNat, Nat.reduceMul, eq_self, implies_true, forall_const] <;> trivial
            subst hr
            obtain rfl : b = true := hb.2 (sameG_refl _)
            simp -implicitDefEqProofs only [vqa, Nat.reduceEqDiff, Nat.reduceAdd, reduceIte, Nat.reduceLeDiff, Nat.reduceBEq, Nat.reduceLT, Nat.reduceSub, Int.reduceLT, Int.reduceLE, Int.reduceEq, Int.reduceToNat, Nat.reduceMul, eq_self, implies_true, forall_const]
      · obtain ⟨t1, t2, t3⟩ : rv.okv = true ∧ rv.cells = [rv] ∧ rv.isCell = true := by rcases hR with ⟨_, rfl⟩ | ⟨_, _, rfl, _, _⟩ <;> exact ⟨rfl, rfl, rfl⟩
        rcases hL with ⟨hw0, hs⟩ | ⟨hw0, hMf, hg0⟩
        · subst hw0
          subst hr
          simp -implicitDefEqProofs only [vqa, Nat.reduceEqDiff, Nat.reduceAdd, reduceIte, Nat.reduceLeDiff, Nat.reduceBEq, Nat.reduceLT, Nat.reduceSub, Int.reduceLT, Int.reduceLE, Int.reduceEq, Int.reduceToNat, Nat.reduceMul, eq_self, implies_true, forall_const, e0, e1, e6, e7, e8, e23, e25, g23, t1, t2, t3]
          generalize (m6 29).ver + 1 = V29
          refine ⟨fun a => ⟨fun b => ?_, fun b => absurd b (by omega)⟩, fun a => absurd a (by omega)⟩
          refine ⟨⟨by omega, by omega, by omega, by omega⟩, ?_⟩
          generalize (m6 187).ver + 1 = V187
          generalize (m6 31).ver + 1 = V31
          generalize hz187 : (fun _ : Nat => AV.agg [.int .i64 0, .int .i64 0]) = z187
          refine vFor nr (fun i e m => e 0 = .fs ni fi ∧ e 1 = .fs nr fr ∧ e 6 = .fs no fo ∧ e 7 = .fs nk fk ∧ e 8 = .fs nn fn ∧ e 23 = .ptr 23 V23 0 ∧ m 23 = .var V23 [.int .i64 0] ∧ e 28 = .int .i64 (M'.n : Nat) ∧ e 29 = .ptr 29 V29 0 ∧ m 29 = .var V29 [.fs M'.ni a0, .fs no a1, rv, .fs M'.n a3, .fs nk a4] ∧ e 30 = .int .i64 0 ∧ e 31 = .ptr 31 V31 0 ∧ m 187 = .row V187 103 2 M'.n z187 ∧ m 41101 = o41 ∧ e 189 = .fs nr fr ∧ e 190 = .int .i64 nr ∧ e 191 = .int .i64 i ∧ ∃ hv, m 31 = .var V31 [.fs ni fi, .fs no fo, hv, .sl 187 V187 M'.n, .fs nk fk] ∧ Acc 209 37 3 i (fun k a => a = (⟨(rg k).name, if k < nn then nx k else (rg k).next, (rg k).init⟩ : RegV).av) hv m) ?_ ?_ ?_
          · simp -implicitDefEqProofs only [vqa, Nat.reduceEqDiff, Nat.reduceAdd, reduceIte, Nat.reduceLeDiff, Nat.reduceBEq, Nat.reduceLT, Nat.reduceSub, Int.reduceLT, Int.reduceLE, Int.reduceEq, Int.reduceToNat, Nat.reduceMul, eq_self, implies_true, forall_const, e0, e1, e6, e7, e8, e23, e25, g23, t1, t2, t3, ho41]
            exact ⟨_, rfl, .none⟩
          · rintro i e m hi hi' ⟨e0, e1, e6, e7, e8, e23, m23, e28, e29, m29, e30, e31, m187, m41, e189, e190, e191, hv, m31, hA⟩
            unfold a4_1
            have hri : fr i = .agg [.str (rg i).name, .int .i64 (rg i).next, .bool (rg i).init] := (hfr i hi).1
            by_cases hnn : i < nn
            · have hnn' : ((i : Nat) : Int) < (nn : Nat) := by omega
              rcases hA with ⟨rfl, rfl⟩ | ⟨ver, g, rfl, m209, hg⟩
              · have hi0 : (0 : Int) < (nr : Nat) := by omega
                have hnn0 : (0 : Int) < (nn : Nat) := by omega
                simp -implicitDefEqProofs only [vqa, Nat.reduceEqDiff, Nat.reduceAdd, reduceIte, Nat.reduceLeDiff, Nat.reduceBEq, Nat.reduceLT, Nat.reduceSub, Int.reduceLT, Int.reduceLE, Int.reduceEq, Int.reduceToNat, Nat.reduceMul, eq_self, implies_true, forall_const, e0, e1, e6, e7, e8, e23, m23, e28, e29, m29, e30, e31, m187, m41, e189, e190, e191, m31, t1, t2, t3, hi', hri, hnn', (hfn 0 hnn).1, hi0, hnn0]
                refine ⟨hi, by decide, _, rfl, .inr ⟨_, _, rfl, (set_ne (show (209 : Nat) ≠ 31 by decide) _ _).trans (set_same _ _ _), fun k hk => ?_⟩⟩
                obtain rfl : k = 0 := by omega
                show _ = RegV.av ⟨_, if 0 < nn then _ else _, _⟩; rw [if_pos hnn]; rfl
              · simp -implicitDefEqProofs only [vqa, Nat.reduceEqDiff, Nat.reduceAdd, reduceIte, Nat.reduceLeDiff, Nat.reduceBEq, Nat.reduceLT, Nat.reduceSub, Int.reduceLT, Int.reduceLE, Int.reduceEq, Int.reduceToNat, Nat.reduceMul, eq_self, implies_true, forall_const, e0, e1, e6, e7, e8, e23, m23, e28, e29, m29, e30, e31, m187, m41, e189, e190, e191, m31, t1, t2, t3, hi', hri, hnn', (hfn i hnn).1, m209]
                refine ⟨by omega, by omega, by omega, hi, wI (by omega) (by omega), _, rfl, .inr ⟨_, _, rfl, (set_ne (show (209 : Nat) ≠ 31 by decide) _ _).trans (set_same _ _ _), pushF (p := fun k => (⟨(rg k).name, if k < nn then nx k else (rg k).next, (rg k).init⟩ : RegV).av) hg ?_⟩⟩
                show _ = RegV.av ⟨_, if i < nn then _ else _, _⟩; rw [if_pos hnn]; rfl
            · have hnn' : ¬ ((i : Nat) : Int) < (nn : Nat) := by omega
              rcases hA with ⟨rfl, rfl⟩ | ⟨ver, g, rfl, m209, hg⟩
              · have hi0 : (0 : Int) < (nr : Nat) := by omega
                have hnn0 : ¬ (0 : Int) < (nn : Nat) := by omega
                simp -implicitDefEqProofs only [vqa, Nat.reduceEqDiff, Nat.reduceAdd, reduceIte, Nat.reduceLeDiff, Nat.reduceBEq, Nat.reduceLT, Nat.reduceSub, Int.reduceLT, Int.reduceLE, Int.reduceEq, Int.reduceToNat, Nat.reduceMul, eq_self, implies_true, forall_const, e0, e1, e6, e7, e8, e23, m23, e28, e29, m29, e30, e31, m187, m41, e189, e190, e191, m31, t1, t2, t3, hi', hri, hnn', hi0, hnn0]
                refine ⟨hi, by decide, _, rfl, .inr ⟨_, _, rfl, (set_ne (show (209 : Nat) ≠ 31 by decide) _ _).trans (set_same _ _ _), fun k hk => ?_⟩⟩
                obtain rfl : k = 0 := by omega
                show _ = RegV.av ⟨_, if 0 < nn then _ else _, _⟩; rw [if_neg hnn]; rfl
              · simp -implicitDefEqProofs only [vqa, Nat.reduceEqDiff, Nat.reduceAdd, reduceIte, Nat.reduceLeDiff, Nat.reduceBEq, Nat.reduceLT, Nat.reduceSub, Int.reduceLT, Int.reduceLE, Int.reduceEq, Int.reduceToNat, Nat.reduceMul, eq_self, implies_true, forall_const, e0, e1, e6, e7, e8, e23, m23, e28, e29, m29, e30, e31, m187, m41, e189, e190, e191, m31, t1, t2, t3, hi', hri, hnn', m209]
                refine ⟨by omega, by omega, hi, wI (by omega) (by omega), _, rfl, .inr ⟨_, _, rfl, (set_ne (show (209 : Nat) ≠ 31 by decide) _ _).trans (set_same _ _ _), pushF (p := fun k => (⟨(rg k).name, if k < nn then nx k else (rg k).next, (rg k).init⟩ : RegV).av) hg ?_⟩⟩
                show _ = RegV.av ⟨_, if i < nn then _ else _, _⟩; rw [if_neg hnn]; rfl
          · rintro e m ⟨e0, e1, e6, e7, e8, e23, m23, e28, e29, m29, e30, e31, m187, m41, e189, e190, e191, hv, m31, hA⟩
            unfold a4_1
            have hb0 : ¬ M'.bad ≠ 0 := fun h => h hs.bad
            by_cases hnn : nn = nr
            · have hE1 : (M'.graF nn (M'.gra nin rg no out nk outs nx)) = graphF (M'.gra nin rg no out nk outs nx) := by unfold Mak.graF; rw [if_neg hb0, if_neg (by omega)]
              have hGF : CallW PP 16 [.agg [.fs ni fi, .fs no fo, hv, .sl 187 V187 M'.n, .fs nk fk]] m fun r m' => r = .int .i64 (M'.graF nn (M'.gra nin rg no out nk outs nx)) ∧ m' = m := by
                have okH : (M'.graZ nin rg no out nk outs nx).Ok := ⟨gok.ni, gok.no, gok.nr, gok.na, gok.nk, gok.inn, gok.out, fun i hi => ⟨(gok.reg i hi).1, (hfn i (by rw [hnn, ← hnr]; exact hi)).2⟩, fun _ _ => (show L64 0 from ⟨by decide, by decide⟩), fun _ _ => (show L64 0 from ⟨by decide, by decide⟩), gok.outs⟩
                have eH : graphF (M'.graZ nin rg no out nk outs nx) = (M'.graF nn (M'.gra nin rg no out nk outs nx)) := by
                  rw [hE1]
                  exact graphF_ands (fun i hi => hgood i hi) (fun i hi => by show litOk (1 + _ + _ + i) 0 ∧ litOk (1 + _ + _ + i) 0; unfold litOk; omega)
                have cH : ∀ gg : Nat → AV, (∀ k, k < nr → gg k = (⟨(rg k).name, if k < nn then nx k else (rg k).next, (rg k).init⟩ : RegV).av) → GraC [.fs ni fi, .fs no fo, .fs nr gg, .fs M'.n z187, .fs nk fk] (M'.graZ nin rg no out nk outs nx) := fun gg hgg => by
                  have : GraC [.fs M'.ni fi, .fs no fo, .fs M'.nr gg, .fs M'.n z187, .fs nk fk] (M'.graZ nin rg no out nk outs nx) := ⟨fi, fo, gg, z187, fk, rfl, fun i hi => (hfi i (hni ▸ hi)).1, fun i hi => (hfo i hi).1, fun i hi => by rw [hgg i (hnr ▸ hi), if_pos (by rw [hnn, ← hnr]; exact hi)]; rfl, fun i hi => by rw [← hz187]; rfl, fun i hi => (hfk i hi).1⟩
                  rw [hni, hnr] at this
                  exact this
                rcases hA with ⟨hz, rfl⟩ | ⟨ver, g, rfl, m209, hg⟩
                · have c0 := cH (fun _ => .undef) (fun k hk => absurd hk (by omega))
                  rw [hz] at c0
                  refine CallW.sc (p16 c0 okH) ?_ ?_ fun r hr => ⟨by subst hr; rfl, by rw [hr, eH], rfl⟩
                  · simp only [rsC, rs2, rs1, rs0, vqa, Nat.reduceEqDiff, Nat.reduceAdd, reduceIte, Nat.reduceLeDiff, Nat.reduceBEq, Nat.reduceLT, Nat.reduceSub, Int.reduceLT, Int.reduceLE, Int.reduceEq, Int.reduceToNat, Nat.reduceMul, eq_self, implies_true, forall_const, m187]
                  · simp only [rsC, rs2, rs1, rs0, vqa, Nat.reduceEqDiff, Nat.reduceAdd, reduceIte, Nat.reduceLeDiff, Nat.reduceBEq, Nat.reduceLT, Nat.reduceSub, Int.reduceLT, Int.reduceLE, Int.reduceEq, Int.reduceToNat, Nat.reduceMul, eq_self, implies_true, forall_const, m187]
                · refine CallW.sc (p16 (cH g hg) okH) ?_ ?_ fun r hr => ⟨by subst hr; rfl, by rw [hr, eH], rfl⟩
                  · simp only [rsC, rs2, rs1, rs0, vqa, Nat.reduceEqDiff, Nat.reduceAdd, reduceIte, Nat.reduceLeDiff, Nat.reduceBEq, Nat.reduceLT, Nat.reduceSub, Int.reduceLT, Int.reduceLE, Int.reduceEq, Int.reduceToNat, Nat.reduceMul, eq_self, implies_true, forall_const, m187, m209]
                  · simp only [rsC, rs2, rs1, rs0, vqa, Nat.reduceEqDiff, Nat.reduceAdd, reduceIte, Nat.reduceLeDiff, Nat.reduceBEq, Nat.reduceLT, Nat.reduceSub, Int.reduceLT, Int.reduceLE, Int.reduceEq, Int.reduceToNat, Nat.reduceMul, eq_self, implies_true, forall_const, m187, m209]
              have hnn' : ((nn : Nat) : Int) = (nr : Nat) := by omega
              simp -implicitDefEqProofs only [vqa, Nat.reduceEqDiff, Nat.reduceAdd, reduceIte, Nat.reduceLeDiff, Nat.reduceBEq, Nat.reduceLT, Nat.reduceSub, Int.reduceLT, Int.reduceLE, Int.reduceEq, Int.reduceToNat, Nat.reduceMul, eq_self, implies_true, forall_const, e0, e1, e6, e7, e8, e23, m23, e28, e29, m29, e30, e31, m187, m41, e189, e190, e191, m31, t1, t2, t3, hnn']
              refine CallW.mono hGF fun r m7 ⟨hr, hm7⟩ => ?_
              subst hr; subst hm7
              rw [hE]
              simp -implicitDefEqProofs only [vqa, Nat.reduceEqDiff, Nat.reduceAdd, reduceIte, Nat.reduceLeDiff, Nat.reduceBEq, Nat.reduceLT, Nat.reduceSub, Int.reduceLT, Int.reduceLE, Int.reduceEq, Int.reduceToNat, Nat.reduceMul, eq_self, implies_true, forall_const, e0, e1, e6, e7, e8, e23, m23, e28, e29, m29, e30, e31, m187, m41, e189, e190, e191, m31, t1, t2, t3]
              have gok' : (M'.gra nin rg no out nk outs nx).Ok := ⟨gok.ni, gok.no, gok.nr, gok.na, gok.nk, gok.inn, gok.out, fun i hi => ⟨(gok.reg i hi).1, (hfn i (by rw [hnn, ← hnr]; exact hi)).2⟩, gok.A, gok.B, gok.outs⟩
              have hG0 : graphF (M'.gra nin rg no out nk outs nx) = 0 := by rw [← hE1]; exact hE
              have hD : ∀ gg : Nat → AV, (∀ k, k < M'.nr → gg k = (⟨(rg k).name, nx k, (rg k).init⟩ : RegV).av) → GraC [.fs M'.ni a0, .fs no a1, .fs M'.nr gg, .fs M'.n a3, .fs nk a4] (M'.gra nin rg no out nk outs nx) := fun gg hgg => ⟨a0, a1, gg, a3, a4, rfl, q0, q1, hgg, q3, q4⟩
              have hGG : CallW PP 16 [.agg [.fs M'.ni a0, .fs no a1, rv, .fs M'.n a3, .fs nk a4]] (Mem.set 23 (AO.var V23 [AV.int IntKind.i64 0]) m7) fun r m' => r = .int .i64 0 ∧ m' = Mem.set 23 (AO.var V23 [AV.int IntKind.i64 0]) m7 := by
                rcases hR with ⟨hz, rfl⟩ | ⟨ver, g, rfl, m411, hg⟩
                · have c0 := hD (fun _ => .undef) (fun k hk => absurd hk (by omega))
                  rw [hz] at c0
                  refine CallW.sc (p16 c0 gok') ?_ ?_ fun r hr => ⟨by subst hr; rfl, by rw [hr, hG0], rfl⟩
                  · simp only [rsC, rs2, rs1, rs0, vqa, Nat.reduceEqDiff, Nat.reduceAdd, reduceIte, Nat.reduceLeDiff, Nat.reduceBEq, Nat.reduceLT, Nat.reduceSub, Int.reduceLT, Int.reduceLE, Int.reduceEq, Int.reduceToNat, Nat.reduceMul, eq_self, implies_true, forall_const]
                  · simp only [rsC, rs2, rs1, rs0, vqa, Nat.reduceEqDiff, Nat.reduceAdd, reduceIte, Nat.reduceLeDiff, Nat.reduceBEq, Nat.reduceLT, Nat.reduceSub, Int.reduceLT, Int.reduceLE, Int.reduceEq, Int.reduceToNat, Nat.reduceMul, eq_self, implies_true, forall_const]
                · have m41' : m7 41101 = .row ver 37 3 M'.nr g := m41.trans (ho41.symm.trans m411)
                  refine CallW.sc (p16 (hD g hg) gok') ?_ ?_ fun r hr => ⟨by subst hr; rfl, by rw [hr, hG0], rfl⟩
                  · simp only [rsC, rs2, rs1, rs0, vqa, Nat.reduceEqDiff, Nat.reduceAdd, reduceIte, Nat.reduceLeDiff, Nat.reduceBEq, Nat.reduceLT, Nat.reduceSub, Int.reduceLT, Int.reduceLE, Int.reduceEq, Int.reduceToNat, Nat.reduceMul, eq_self, implies_true, forall_const, m41']
                  · simp only [rsC, rs2, rs1, rs0, vqa, Nat.reduceEqDiff, Nat.reduceAdd, reduceIte, Nat.reduceLeDiff, Nat.reduceBEq, Nat.reduceLT, Nat.reduceSub, Int.reduceLT, Int.reduceLE, Int.reduceEq, Int.reduceToNat, Nat.reduceMul, eq_self, implies_true, forall_const, m41']
              refine CallW.mono hGG fun r m8 ⟨hr, hm8⟩ => ?_
              subst hr; subst hm8
              simp -implicitDefEqProofs only [vqa, Nat.reduceEqDiff, Nat.reduceAdd, reduceIte, Nat.reduceLeDiff, Nat.reduceBEq, Nat.reduceLT, Nat.reduceSub, Int.reduceLT, Int.reduceLE, Int.reduceEq, Int.reduceToNat, Nat.reduceMul, eq_self, implies_true, forall_const, e0, e1, e6, e7, e8, e23, m23, e28, e29, m29, e30, e31, m187, m41, e189, e190, e191, m31, t1, t2, t3]
              refine CallW.sc (p31 nk nk outs outs a4 fk q4 (fun i hi => (hfk i hi).1) (by omega) (by omega)) rfl ⟨trivial, trivial, trivial⟩ fun r ⟨b, hr, hb⟩ => ⟨by subst hr; rfl, ?_⟩
              subst hr
              obtain rfl : b = true := hb.2 ⟨rfl, fun _ _ => rfl⟩
              simp -implicitDefEqProofs only [vqa, Nat.reduceEqDiff, Nat.reduceAdd, reduceIte, Nat.reduceLeDiff, Nat.reduceBEq, Nat.reduceLT, Nat.reduceSub, Int.reduceLT, Int.reduceLE, Int.reduceEq, Int.reduceToNat, Nat.reduceMul, eq_self, implies_true, forall_const, e0, e1, e6, e7, e8, e23, m23, e28, e29, m29, e30, e31, m187, m41, e189, e190, e191, m31, t1, t2, t3]
              done
            · exfalso
              have hE1 : (M'.graF nn (M'.gra nin rg no out nk outs nx)) = 4 := by unfold Mak.graF; rw [if_neg hb0, if_pos (by omega)]
              rw [hE1] at hE
              exact absurd hE (by decide)
        · exfalso
          have hb : M'.bad ≠ 0 := by rw [hMf]; show (if (0 : Int) = 0 then want else 0) ≠ 0; rw [if_pos rfl]; exact hw0
          unfold Mak.graF at hE
          rw [if_pos hb] at hE
          exact hb hE
end Go.Ab
