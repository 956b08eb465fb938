/- The statement on minors: what is told of minors, signs and counts. -/
import Derived.Test.YtkpibnhddhdooaaB4
namespace Go.Proofs.Ytkpibnhddhdooaa.L
open Go
set_option linter.unusedSimpArgs false
set_option linter.unusedVariables false
def c_laws_FnMinors : F := ⟨(.seq (.reg false [⟨(some 2), (.mv (.c (.bool false))), none⟩]) (.seq (.seq (.reg false [⟨(some 53), (.mv (.t 0)), none⟩, ⟨(some 54), (.call (.f 18) [(.t 53)]), none⟩]) (.cond (.t 54) (.seq (.reg false [⟨(some 2), (.mv (.c (.bool true))), none⟩]) .ret) .skip)) (.seq (.reg false [⟨(some 56), (.mv (.t 0)), none⟩, ⟨(some 57), (.call (.f 19) [(.t 56)]), none⟩, ⟨(some 55), (.mv (.t 57)), none⟩, ⟨(some 58), (.ext (.t 55) 0), none⟩, ⟨(some 59), (.ext (.t 55) 1), none⟩, ⟨(some 3), (.mv (.t 58)), none⟩, ⟨(some 4), (.mv (.t 59)), none⟩]) (.seq (.reg false [⟨(some 61), (.mv (.t 3)), none⟩, ⟨(some 62), (.mv (.t 4)), none⟩, ⟨(some 63), (.call (.f 20) [(.t 61), (.t 62)]), none⟩, ⟨(some 60), (.mv (.t 63)), none⟩, ⟨(some 64), (.ext (.t 60) 0), none⟩, ⟨(some 65), (.ext (.t 60) 1), none⟩, ⟨(some 5), (.mv (.t 64)), none⟩, ⟨(some 6), (.mv (.t 65)), none⟩]) (.seq (.reg false [⟨(some 67), (.mv (.t 3)), none⟩, ⟨(some 68), (.mv (.t 4)), none⟩, ⟨(some 69), (.call (.f 21) [(.t 67), (.t 68)]), none⟩, ⟨(some 66), (.mv (.t 69)), none⟩, ⟨(some 70), (.ext (.t 66) 0), none⟩, ⟨(some 71), (.ext (.t 66) 1), none⟩, ⟨(some 7), (.mv (.t 70)), none⟩, ⟨(some 8), (.mv (.t 71)), none⟩]) (.seq (.seq (.reg false [⟨(some 72), (.mv (.t 6)), none⟩, ⟨(some 73), (.mv (.t 8)), none⟩, ⟨(some 74), (.bin .neq (.t 72) (.t 73)), none⟩, ⟨(some 75), (.mv (.t 74)), none⟩, ⟨(some 76), (.mv (.t 5)), (some (75, false))⟩, ⟨(some 77), (.mv (.t 7)), (some (75, false))⟩, ⟨(some 78), (.bin .neq (.t 76) (.t 77)), (some (75, false))⟩, ⟨(some 79), (.pick (.t 75) (.c (.bool true)) (.t 78)), none⟩]) (.cond (.t 79) (.seq (.reg false [⟨(some 2), (.mv (.c (.bool false))), none⟩]) .ret) .skip)) (.seq (.seq (.reg false [⟨(some 80), (.mv (.t 6)), none⟩, ⟨(some 81), (.bin .eql (.t 80) (.c (.int .i64 0))), none⟩]) (.cond (.t 81) (.seq (.reg false [⟨(some 83), (.mv (.t 3)), none⟩, ⟨(some 84), (.mv (.t 4)), none⟩, ⟨(some 85), (.mv (.t 4)), none⟩, ⟨(some 86), (.call (.f 22) [(.t 83), (.t 84), (.t 85)]), none⟩, ⟨(some 82), (.mv (.t 86)), none⟩, ⟨(some 87), (.ext (.t 82) 0), none⟩, ⟨(some 88), (.ext (.t 82) 1), none⟩, ⟨(some 9), (.mv (.t 87)), none⟩, ⟨(some 10), (.mv (.t 88)), none⟩]) (.seq (.reg false [⟨(some 90), (.mv (.t 3)), none⟩, ⟨(some 91), (.call (.f 23) [(.t 90)]), none⟩, ⟨(some 89), (.mv (.t 91)), none⟩, ⟨(some 92), (.ext (.t 89) 0), none⟩, ⟨(some 93), (.ext (.t 89) 1), none⟩, ⟨(some 11), (.mv (.t 92)), none⟩, ⟨(some 12), (.mv (.t 93)), none⟩]) (.seq (.reg false [⟨(some 94), (.mv (.t 10)), none⟩, ⟨(some 95), (.bin .neq (.t 94) (.c (.int .i64 0))), none⟩, ⟨(some 96), (.mv (.t 95)), none⟩, ⟨(some 97), (.mv (.t 12)), (some (96, false))⟩, ⟨(some 98), (.bin .neq (.t 97) (.c (.int .i64 0))), (some (96, false))⟩, ⟨(some 99), (.pick (.t 96) (.c (.bool true)) (.t 98)), none⟩, ⟨(some 100), (.mv (.t 99)), none⟩, ⟨(some 101), (.mv (.t 9)), (some (100, false))⟩, ⟨(some 102), (.mv (.t 5)), (some (100, false))⟩, ⟨(some 103), (.bin .neq (.t 101) (.t 102)), (some (100, false))⟩, ⟨(some 104), (.pick (.t 100) (.c (.bool true)) (.t 103)), none⟩, ⟨(some 105), (.mv (.t 104)), none⟩, ⟨(some 106), (.mv (.t 11)), (some (105, false))⟩, ⟨(some 107), (.mv (.t 4)), (some (105, false))⟩, ⟨(some 108), (.call (.f 24) [(.t 106), (.t 107)]), (some (105, false))⟩, ⟨(some 109), (.mv (.t 5)), (some (105, false))⟩, ⟨(some 110), (.bin .lss (.t 109) (.c (.int .i64 0))), (some (105, false))⟩, ⟨(some 111), (.beq true (.t 108) (.t 110)), (some (105, false))⟩, ⟨(some 112), (.pick (.t 105) (.c (.bool true)) (.t 111)), none⟩]) (.cond (.t 112) (.seq (.reg false [⟨(some 2), (.mv (.c (.bool false))), none⟩]) .ret) .skip)))) .skip)) (.seq (.reg false [⟨(some 113), (.mv (.t 0)), none⟩, ⟨(some 114), (.call (.f 25) [(.t 113)]), none⟩, ⟨(some 13), (.mv (.t 114)), none⟩]) (.seq (.reg false [⟨(some 116), (.mv (.t 13)), none⟩, ⟨(some 117), (.call (.f 26) [(.t 116)]), none⟩, ⟨(some 115), (.mv (.t 117)), none⟩, ⟨(some 118), (.ext (.t 115) 0), none⟩, ⟨(some 119), (.ext (.t 115) 1), none⟩, ⟨(some 14), (.mv (.t 118)), none⟩, ⟨(some 15), (.mv (.t 119)), none⟩]) (.seq (.reg false [⟨(some 121), (.mv (.t 13)), none⟩, ⟨(some 122), (.call (.f 27) [(.t 121)]), none⟩, ⟨(some 120), (.mv (.t 122)), none⟩, ⟨(some 123), (.ext (.t 120) 0), none⟩, ⟨(some 124), (.ext (.t 120) 1), none⟩, ⟨(some 16), (.mv (.t 123)), none⟩, ⟨(some 17), (.mv (.t 124)), none⟩]) (.seq (.reg false [⟨(some 126), (.mv (.t 13)), none⟩, ⟨(some 127), (.call (.f 28) [(.t 126)]), none⟩, ⟨(some 125), (.mv (.t 127)), none⟩, ⟨(some 128), (.ext (.t 125) 0), none⟩, ⟨(some 129), (.ext (.t 125) 1), none⟩, ⟨(some 18), (.mv (.t 128)), none⟩, ⟨(some 19), (.mv (.t 129)), none⟩]) (.seq (.reg false [⟨(some 131), (.mv (.t 13)), none⟩, ⟨(some 132), (.call (.f 29) [(.t 131)]), none⟩, ⟨(some 130), (.mv (.t 132)), none⟩, ⟨(some 133), (.ext (.t 130) 0), none⟩, ⟨(some 134), (.ext (.t 130) 1), none⟩, ⟨(some 20), (.mv (.t 133)), none⟩, ⟨(some 21), (.mv (.t 134)), none⟩]) (.seq (.reg false [⟨(some 136), (.mv (.t 13)), none⟩, ⟨(some 137), (.call (.f 30) [(.t 136)]), none⟩, ⟨(some 135), (.mv (.t 137)), none⟩, ⟨(some 138), (.ext (.t 135) 0), none⟩, ⟨(some 139), (.ext (.t 135) 1), none⟩, ⟨(some 22), (.mv (.t 138)), none⟩, ⟨(some 23), (.mv (.t 139)), none⟩]) (.seq (.reg false [⟨(some 141), (.mv (.t 13)), none⟩, ⟨(some 142), (.call (.f 31) [(.t 141)]), none⟩, ⟨(some 140), (.mv (.t 142)), none⟩, ⟨(some 143), (.ext (.t 140) 0), none⟩, ⟨(some 144), (.ext (.t 140) 1), none⟩, ⟨(some 24), (.mv (.t 143)), none⟩, ⟨(some 25), (.mv (.t 144)), none⟩]) (.seq (.seq (.reg false [⟨(some 145), (.mv (.t 15)), none⟩, ⟨(some 146), (.mv (.t 17)), none⟩, ⟨(some 147), (.bin .neq (.t 145) (.t 146)), none⟩, ⟨(some 148), (.mv (.t 147)), none⟩, ⟨(some 149), (.mv (.t 14)), (some (148, false))⟩, ⟨(some 150), (.mv (.t 16)), (some (148, false))⟩, ⟨(some 151), (.call (.f 32) [(.t 149), (.t 150)]), (some (148, false))⟩, ⟨(some 152), (.un .not (.t 151)), (some (148, false))⟩, ⟨(some 153), (.pick (.t 148) (.c (.bool true)) (.t 152)), none⟩, ⟨(some 154), (.mv (.t 153)), none⟩, ⟨(some 155), (.mv (.t 19)), (some (154, false))⟩, ⟨(some 156), (.mv (.t 21)), (some (154, false))⟩, ⟨(some 157), (.bin .neq (.t 155) (.t 156)), (some (154, false))⟩, ⟨(some 158), (.pick (.t 154) (.c (.bool true)) (.t 157)), none⟩, ⟨(some 159), (.mv (.t 158)), none⟩, ⟨(some 160), (.mv (.t 18)), (some (159, false))⟩, ⟨(some 161), (.mv (.t 20)), (some (159, false))⟩, ⟨(some 162), (.call (.f 32) [(.t 160), (.t 161)]), (some (159, false))⟩, ⟨(some 163), (.un .not (.t 162)), (some (159, false))⟩, ⟨(some 164), (.pick (.t 159) (.c (.bool true)) (.t 163)), none⟩, ⟨(some 165), (.mv (.t 164)), none⟩, ⟨(some 166), (.mv (.t 23)), (some (165, false))⟩, ⟨(some 167), (.mv (.t 25)), (some (165, false))⟩, ⟨(some 168), (.bin .neq (.t 166) (.t 167)), (some (165, false))⟩, ⟨(some 169), (.pick (.t 165) (.c (.bool true)) (.t 168)), none⟩, ⟨(some 170), (.mv (.t 169)), none⟩, ⟨(some 171), (.mv (.t 22)), (some (170, false))⟩, ⟨(some 172), (.mv (.t 24)), (some (170, false))⟩, ⟨(some 173), (.call (.f 32) [(.t 171), (.t 172)]), (some (170, false))⟩, ⟨(some 174), (.un .not (.t 173)), (some (170, false))⟩, ⟨(some 175), (.pick (.t 170) (.c (.bool true)) (.t 174)), none⟩]) (.cond (.t 175) (.seq (.reg false [⟨(some 2), (.mv (.c (.bool false))), none⟩]) .ret) .skip)) (.seq (.seq (.reg false [⟨(some 176), (.mv (.t 19)), none⟩, ⟨(some 177), (.bin .eql (.t 176) (.c (.int .i64 0))), none⟩]) (.cond (.t 177) (.seq (.reg false [⟨(some 179), (.mv (.t 18)), none⟩, ⟨(some 180), (.call (.f 28) [(.t 179)]), none⟩, ⟨(some 178), (.mv (.t 180)), none⟩, ⟨(some 181), (.ext (.t 178) 0), none⟩, ⟨(some 182), (.ext (.t 178) 1), none⟩, ⟨(some 26), (.mv (.t 181)), none⟩, ⟨(some 27), (.mv (.t 182)), none⟩]) (.seq (.reg false [⟨(some 183), (.mv (.t 27)), none⟩, ⟨(some 184), (.bin .neq (.t 183) (.c (.int .i64 0))), none⟩, ⟨(some 185), (.mv (.t 184)), none⟩, ⟨(some 186), (.mv (.t 26)), (some (185, false))⟩, ⟨(some 187), (.mv (.t 18)), (some (185, false))⟩, ⟨(some 188), (.call (.f 32) [(.t 186), (.t 187)]), (some (185, false))⟩, ⟨(some 189), (.un .not (.t 188)), (some (185, false))⟩, ⟨(some 190), (.pick (.t 185) (.c (.bool true)) (.t 189)), none⟩]) (.cond (.t 190) (.seq (.reg false [⟨(some 2), (.mv (.c (.bool false))), none⟩]) .ret) .skip))) .skip)) (.seq (.reg false [⟨(some 192), (.mv (.t 0)), none⟩, ⟨(some 193), (.call (.f 33) [(.t 192)]), none⟩, ⟨(some 191), (.mv (.t 193)), none⟩, ⟨(some 194), (.ext (.t 191) 0), none⟩, ⟨(some 195), (.ext (.t 191) 1), none⟩, ⟨(some 196), (.ext (.t 191) 2), none⟩, ⟨(some 28), (.mv (.t 194)), none⟩, ⟨(some 29), (.mv (.t 195)), none⟩, ⟨(some 30), (.mv (.t 196)), none⟩]) (.seq (.reg false [⟨(some 198), (.mv (.t 28)), none⟩, ⟨(some 199), (.mv (.t 29)), none⟩, ⟨(some 200), (.mv (.t 30)), none⟩, ⟨(some 201), (.call (.f 22) [(.t 198), (.t 199), (.t 200)]), none⟩, ⟨(some 197), (.mv (.t 201)), none⟩, ⟨(some 202), (.ext (.t 197) 0), none⟩, ⟨(some 203), (.ext (.t 197) 1), none⟩, ⟨(some 31), (.mv (.t 202)), none⟩, ⟨(some 32), (.mv (.t 203)), none⟩]) (.seq (.reg false [⟨(some 205), (.mv (.t 28)), none⟩, ⟨(some 206), (.mv (.t 29)), none⟩, ⟨(some 207), (.mv (.t 30)), none⟩, ⟨(some 208), (.call (.f 34) [(.t 205), (.t 206), (.t 207)]), none⟩, ⟨(some 204), (.mv (.t 208)), none⟩, ⟨(some 209), (.ext (.t 204) 0), none⟩, ⟨(some 210), (.ext (.t 204) 1), none⟩, ⟨(some 33), (.mv (.t 209)), none⟩, ⟨(some 34), (.mv (.t 210)), none⟩]) (.seq (.reg false [⟨(some 211), (.mv (.t 0)), none⟩, ⟨(some 212), (.call (.f 35) [(.t 211)]), none⟩, ⟨(some 35), (.mv (.t 212)), none⟩]) (.seq (.reg false [⟨(some 214), (.mv (.t 35)), none⟩, ⟨(some 215), (.call (.f 36) [(.t 214)]), none⟩, ⟨(some 213), (.mv (.t 215)), none⟩, ⟨(some 216), (.ext (.t 213) 0), none⟩, ⟨(some 217), (.ext (.t 213) 1), none⟩, ⟨(some 36), (.mv (.t 216)), none⟩, ⟨(some 37), (.mv (.t 217)), none⟩]) (.seq (.reg false [⟨(some 219), (.mv (.t 35)), none⟩, ⟨(some 220), (.call (.f 37) [(.t 219)]), none⟩, ⟨(some 218), (.mv (.t 220)), none⟩, ⟨(some 221), (.ext (.t 218) 0), none⟩, ⟨(some 222), (.ext (.t 218) 1), none⟩, ⟨(some 38), (.mv (.t 221)), none⟩, ⟨(some 39), (.mv (.t 222)), none⟩]) (.seq (.reg false [⟨(some 224), (.mv (.t 0)), none⟩, ⟨(some 225), (.call (.f 38) [(.t 224)]), none⟩, ⟨(some 223), (.mv (.t 225)), none⟩, ⟨(some 226), (.ext (.t 223) 0), none⟩, ⟨(some 227), (.ext (.t 223) 1), none⟩, ⟨(some 40), (.mv (.t 226)), none⟩, ⟨(some 41), (.mv (.t 227)), none⟩]) (.seq (.reg false [⟨(some 229), (.mv (.t 40)), none⟩, ⟨(some 230), (.mv (.t 41)), none⟩, ⟨(some 231), (.call (.f 39) [(.t 229), (.t 230)]), none⟩, ⟨(some 228), (.mv (.t 231)), none⟩, ⟨(some 232), (.ext (.t 228) 0), none⟩, ⟨(some 233), (.ext (.t 228) 1), none⟩, ⟨(some 42), (.mv (.t 232)), none⟩, ⟨(some 43), (.mv (.t 233)), none⟩]) (.seq (.reg false [⟨(some 235), (.mv (.t 40)), none⟩, ⟨(some 236), (.mv (.t 41)), none⟩, ⟨(some 237), (.call (.f 40) [(.t 235), (.t 236)]), none⟩, ⟨(some 234), (.mv (.t 237)), none⟩, ⟨(some 238), (.ext (.t 234) 0), none⟩, ⟨(some 239), (.ext (.t 234) 1), none⟩, ⟨(some 44), (.mv (.t 238)), none⟩, ⟨(some 45), (.mv (.t 239)), none⟩]) (.seq (.reg false [⟨(some 240), (.mv (.t 0)), none⟩, ⟨(some 241), (.call (.f 41) [(.t 240)]), none⟩, ⟨(some 46), (.mv (.t 241)), none⟩]) (.seq (.reg false [⟨(some 243), (.mv (.t 46)), none⟩, ⟨(some 244), (.call (.f 23) [(.t 243)]), none⟩, ⟨(some 242), (.mv (.t 244)), none⟩, ⟨(some 245), (.ext (.t 242) 0), none⟩, ⟨(some 246), (.ext (.t 242) 1), none⟩, ⟨(some 47), (.mv (.t 245)), none⟩, ⟨(some 48), (.mv (.t 246)), none⟩]) (.seq (.reg false [⟨(some 248), (.mv (.t 46)), none⟩, ⟨(some 249), (.call (.f 42) [(.t 248)]), none⟩, ⟨(some 247), (.mv (.t 249)), none⟩, ⟨(some 250), (.ext (.t 247) 0), none⟩, ⟨(some 251), (.ext (.t 247) 1), none⟩, ⟨(some 49), (.mv (.t 250)), none⟩, ⟨(some 50), (.mv (.t 251)), none⟩]) (.seq (.seq (.reg false [⟨(some 252), (.mv (.t 32)), none⟩, ⟨(some 253), (.mv (.t 34)), none⟩, ⟨(some 254), (.bin .neq (.t 252) (.t 253)), none⟩, ⟨(some 255), (.mv (.t 254)), none⟩, ⟨(some 256), (.mv (.t 31)), (some (255, false))⟩, ⟨(some 257), (.mv (.t 33)), (some (255, false))⟩, ⟨(some 258), (.bin .neq (.t 256) (.t 257)), (some (255, false))⟩, ⟨(some 259), (.pick (.t 255) (.c (.bool true)) (.t 258)), none⟩, ⟨(some 260), (.mv (.t 259)), none⟩, ⟨(some 261), (.mv (.t 37)), (some (260, false))⟩, ⟨(some 262), (.mv (.t 39)), (some (260, false))⟩, ⟨(some 263), (.bin .neq (.t 261) (.t 262)), (some (260, false))⟩, ⟨(some 264), (.pick (.t 260) (.c (.bool true)) (.t 263)), none⟩, ⟨(some 265), (.mv (.t 264)), none⟩, ⟨(some 266), (.mv (.t 36)), (some (265, false))⟩, ⟨(some 267), (.mv (.t 38)), (some (265, false))⟩, ⟨(some 268), (.bin .neq (.t 266) (.t 267)), (some (265, false))⟩, ⟨(some 269), (.pick (.t 265) (.c (.bool true)) (.t 268)), none⟩, ⟨(some 270), (.mv (.t 269)), none⟩, ⟨(some 271), (.mv (.t 43)), (some (270, false))⟩, ⟨(some 272), (.mv (.t 45)), (some (270, false))⟩, ⟨(some 273), (.bin .neq (.t 271) (.t 272)), (some (270, false))⟩, ⟨(some 274), (.pick (.t 270) (.c (.bool true)) (.t 273)), none⟩, ⟨(some 275), (.mv (.t 274)), none⟩, ⟨(some 276), (.mv (.t 42)), (some (275, false))⟩, ⟨(some 277), (.mv (.t 44)), (some (275, false))⟩, ⟨(some 278), (.call (.f 32) [(.t 276), (.t 277)]), (some (275, false))⟩, ⟨(some 279), (.un .not (.t 278)), (some (275, false))⟩, ⟨(some 280), (.pick (.t 275) (.c (.bool true)) (.t 279)), none⟩, ⟨(some 281), (.mv (.t 280)), none⟩, ⟨(some 282), (.mv (.t 48)), (some (281, false))⟩, ⟨(some 283), (.mv (.t 50)), (some (281, false))⟩, ⟨(some 284), (.bin .neq (.t 282) (.t 283)), (some (281, false))⟩, ⟨(some 285), (.pick (.t 281) (.c (.bool true)) (.t 284)), none⟩, ⟨(some 286), (.mv (.t 285)), none⟩, ⟨(some 287), (.mv (.t 47)), (some (286, false))⟩, ⟨(some 288), (.mv (.t 49)), (some (286, false))⟩, ⟨(some 289), (.call (.f 43) [(.t 287), (.t 288)]), (some (286, false))⟩, ⟨(some 290), (.un .not (.t 289)), (some (286, false))⟩, ⟨(some 291), (.pick (.t 286) (.c (.bool true)) (.t 290)), none⟩]) (.cond (.t 291) (.seq (.reg false [⟨(some 2), (.mv (.c (.bool false))), none⟩]) .ret) .skip)) (.seq (.seq (.reg false [⟨(some 292), (.mv (.t 37)), none⟩, ⟨(some 293), (.bin .eql (.t 292) (.c (.int .i64 0))), none⟩]) (.cond (.t 293) (.seq (.reg false [⟨(some 295), (.mv (.t 35)), none⟩, ⟨(some 296), (.call (.f 23) [(.t 295)]), none⟩, ⟨(some 294), (.mv (.t 296)), none⟩, ⟨(some 297), (.ext (.t 294) 0), none⟩, ⟨(some 298), (.ext (.t 294) 1), none⟩, ⟨(some 51), (.mv (.t 297)), none⟩, ⟨(some 52), (.mv (.t 298)), none⟩]) (.seq (.reg false [⟨(some 299), (.mv (.t 52)), none⟩, ⟨(some 300), (.bin .neq (.t 299) (.c (.int .i64 0))), none⟩, ⟨(some 301), (.mv (.t 300)), none⟩, ⟨(some 302), (.mv (.t 36)), (some (301, false))⟩, ⟨(some 303), (.mv (.t 51)), (some (301, false))⟩, ⟨(some 304), (.len (.t 303)), (some (301, false))⟩, ⟨(some 305), (.bin .lss (.t 302) (.t 304)), (some (301, false))⟩, ⟨(some 306), (.pick (.t 301) (.c (.bool true)) (.t 305)), none⟩]) (.cond (.t 306) (.seq (.reg false [⟨(some 2), (.mv (.c (.bool false))), none⟩]) .ret) .skip))) .skip)) (.seq (.reg false [⟨(some 2), (.mv (.c (.bool true))), none⟩]) .ret))))))))))))))))))))))))))))))), 307, [(.t 2)]⟩
theorem k_laws_FnMinors : compF Try.prog Try.f5 = some c_laws_FnMinors := by kernel_rfl

theorem at2_cmp {ll : List (List Int)} {i k : Nat} (hi : i < ll.length) (hk : k < ll.length) : at2 (cmpF2 ll) i k = cmp2 ll i k := by
  unfold at2 cmpF2
  rw [rowsOf_get hi, rowOf_get hk]
theorem cmpF2_len (ll : List (List Int)) : (cmpF2 ll).length = ll.length := rowsOf_len _ _
theorem cmp_mat {ll : List (List Int)} (hm : isMat ll = true) : isMat (cmpF2 ll) = true := by
  have h := (isMat_iff ll).1 hm
  rw [isMat_iff, cmpF2_len]
  refine ⟨h.1, h.2.1, fun k hk => ?_⟩
  have e : (cmpF2 ll).getD k [] = rowOf ll.length (cmp2 ll k) := rowsOf_get hk
  rw [e]
  refine ⟨rowOf_len _ _, ?_⟩
  rw [within_iff]
  intro j hj
  rw [rowOf_len] at hj
  rw [rowOf_get hj]
  have := isMat_at hm hk hj
  unfold cmp2
  split <;> omega
theorem cmp_again (ll : List (List Int)) : cmpF2 (cmpF2 ll) = cmpF2 ll := by
  refine getD_ext (d := []) (by rw [cmpF2_len]) fun i hi => ?_
  rw [cmpF2_len, cmpF2_len] at hi
  have e1 : (cmpF2 (cmpF2 ll)).getD i [] = rowOf (cmpF2 ll).length (cmp2 (cmpF2 ll) i) := rowsOf_get (by rw [cmpF2_len]; exact hi)
  have e2 : (cmpF2 ll).getD i [] = rowOf ll.length (cmp2 ll i) := rowsOf_get hi
  rw [e1, e2, cmpF2_len]
  refine getD_ext (d := 0) (by rw [rowOf_len, rowOf_len]) fun j hj => ?_
  rw [rowOf_len] at hj
  rw [rowOf_get hj, rowOf_get hj]
  have := at2_cmp hi hj
  unfold cmp2 at this ⊢
  rw [this]
  split <;> omega
theorem negL_mem {l : List Int} {k : Nat} {a : Int} : a ∈ negL l k ↔ ∃ i : Nat, i < k ∧ l.getD i 0 < 0 ∧ (i : Int) = a := by
  unfold negL
  rw [List.mem_map]
  constructor
  · rintro ⟨i, hi, e⟩
    rw [List.mem_filter, List.mem_range, decide_eq_true_eq] at hi
    exact ⟨i, hi.1, hi.2, e⟩
  · rintro ⟨i, h1, h2, e⟩
    exact ⟨i, by rw [List.mem_filter, List.mem_range, decide_eq_true_eq]; exact ⟨h1, h2⟩, e⟩
theorem neg_said {ll : List (List Int)} {a : Int} (h : codeM ll [a] = 0) : (a ∈ (negV ll).1) ↔ minorOf ll a a < 0 := by
  obtain ⟨hm, hs⟩ := codeM_zero.1 h
  have h1 := hs a (by simp)
  simp only [inSet, decide_eq_true_eq] at h1
  unfold negV
  rw [if_pos hm, negL_mem]
  constructor
  · rintro ⟨i, hi, h2, rfl⟩
    rw [minorsL, rowOf_get hi] at h2
    exact h2
  · intro h2
    obtain ⟨i, rfl⟩ : ∃ i : Nat, a = i := ⟨a.toNat, by omega⟩
    refine ⟨i, by omega, ?_, rfl⟩
    rw [minorsL, rowOf_get (by omega)]
    exact h2
theorem negL_count (ll : List (List Int)) : ∀ k, k ≤ pw ll.length → ((negL (minorsL ll) k).length : Int) = sumTo k fun r => neg1 ll r r
  | 0, _ => by simp [negL, sumTo]
  | k + 1, hk => by
    have ih := negL_count ll k (by omega)
    have e : (minorsL ll).getD k 0 = minorOf ll k k := by rw [minorsL, rowOf_get (by omega)]
    by_cases h : (minorsL ll).getD k 0 < 0
    · rw [negL_t h, sumTo]
      have : neg1 ll k k = 1 := by unfold neg1; rw [if_pos ⟨rfl, by rw [← e]; exact h⟩]
      simp only [List.length_append, List.length_cons, List.length_nil]
      omega
    · rw [negL_f h, sumTo]
      have : neg1 ll k k = 0 := by unfold neg1; rw [if_neg fun hh => h (by rw [e]; exact hh.2)]
      omega
theorem sumTo_part {n : Nat} {f : Nat → Int} (h : ∀ i, 0 ≤ f i) {k : Nat} (hk : k < n) : f k ≤ sumTo n f := by
  induction n with
  | zero => omega
  | succ n ih =>
    rw [sumTo]
    have hpos : ∀ m, 0 ≤ sumTo m f := fun m => by
      induction m with
      | zero => simp [sumTo]
      | succ m ihm => rw [sumTo]; have := h m; omega
    by_cases e : k = n
    · subst e; have := hpos k; omega
    · have := ih (by omega); have := h n; omega
theorem sumTo_le2 {n : Nat} {f g : Nat → Int} (h : ∀ i, i < n → f i ≤ g i) : sumTo n f ≤ sumTo n g := by
  induction n with
  | zero => simp [sumTo]
  | succ n ih =>
    rw [sumTo, sumTo]
    have := ih fun i hi => h i (by omega)
    have := h n (by omega)
    omega
theorem count_said {ll : List (List Int)} (hm : isMat ll = true) : ((negV ll).1.length : Int) ≤ (cntV ll).1 := by
  unfold negV cntV
  rw [if_pos hm, if_pos hm]
  simp only
  rw [negL_count ll _ (Nat.le_refl _)]
  exact sumTo_le2 fun r hr => sumTo_part (f := neg1 ll r) (fun c => (neg1_b ll r c).1) hr
theorem Few.big {ll : List (List Int)} (f : Few ll) : ll.length ≤ 1048576 ∧ ∀ l ∈ ll, l.length ≤ 1048576 := ⟨by have := f.1; omega, fun l hl => by have := f.2 l hl; omega⟩
theorem minorV_zero {ll : List (List Int)} {a : Int} : (minorV ll a).2 = 0 ↔ codeM ll [a] = 0 := by
  unfold minorV
  split
  · rename_i h; simp [h]
  · exact Iff.rfl
theorem minorV_val {ll : List (List Int)} {a : Int} (h : codeM ll [a] = 0) : minorV ll a = (minorOf ll a a, 0) := by unfold minorV; rw [if_pos h]
theorem minorByV_val {ll : List (List Int)} {a : Int} (h : codeM ll [a] = 0) : minorByV ll a a = (minorOf ll a a, 0) := by
  unfold minorByV
  have : codeM ll [a, a] = 0 := by
    rw [codeM_zero] at h ⊢
    exact ⟨h.1, fun x hx => h.2 x (by simpa using hx)⟩
  rw [if_pos this, if_pos rfl]
theorem negV_zero {ll : List (List Int)} (h : isMat ll = true) : (negV ll).2 = 0 := by unfold negV; rw [if_pos h]
theorem negV_len (ll : List (List Int)) : (negV ll).1.length ≤ 1048576 := by
  unfold negV
  split
  · rename_i hm
    have := pw_le ((isMat_iff ll).1 hm).2.1
    have := negL_len (minorsL ll) (pw ll.length)
    simp only; omega
  · simp
theorem cntV_zero {ll : List (List Int)} : (cntV ll).2 = 0 ↔ isMat ll = true := by
  unfold cntV
  split
  · rename_i h; simp [h]
  · rename_i h; simp [h]
theorem rows_small {ll : List (List Int)} {F : Nat → Nat → Int} : (if isMat ll = true then (rowsOf ll.length fun i => rowOf ll.length (F i)) else []).length ≤ 1048576 ∧ ∀ l ∈ (if isMat ll = true then (rowsOf ll.length fun i => rowOf ll.length (F i)) else []), l.length ≤ 1048576 := by
  by_cases hm : isMat ll = true
  · rw [if_pos hm]
    have := rowsOf_small ((isMat_iff ll).1 hm).2.1 F
    exact ⟨by omega, fun l hl => by have := this.2 l hl; omega⟩
  · rw [if_neg hm]; exact ⟨by simp, fun l hl => by simp at hl⟩
theorem addR_small (ll : List (List Int)) (c : Int) (hb : ll.length ≤ 1048576 ∧ ∀ l ∈ ll, l.length ≤ 1048576) : (addR ll c).length ≤ 1048576 ∧ ∀ l ∈ addR ll c, l.length ≤ 1048576 := by
  unfold addR
  split
  · refine ⟨by rw [addM, rowsOf_len]; exact hb.1, fun l hl => ?_⟩
    simp only [addM, rowsOf, List.mem_map, List.mem_range] at hl
    obtain ⟨i, hi, rfl⟩ := hl
    rw [diag1, List.length_set]
    exact hb.2 _ (getD_mem hi)
  · simp
set_option maxRecDepth 100000 in
set_option maxHeartbeats 8000000 in
theorem laws_FnMinors {hi : Nat} {h : AH} {v : AV} {code : List Int} (s : Sl false 0 hi h 1 v (bytesA code)) (hc : ∀ x ∈ code, 0 ≤ x ∧ x ≤ 255) (n : Nat) (hn : hi ≤ n) :
    Q Try.prog 5 [v] h n (.bool true) := by
  refine q_intro Try.func5 k_laws_FnMinors ?_
  simp (maxSteps := 2000000) -implicitDefEqProofs (disch := omega) only [c_laws_FnMinors, xsW, xsC, if_true, if_false, ite_true, ite_false, forall_const, ne_eq, beq_self_eq_true, bne_self_eq_false, imp_self, true_implies, false_implies, implies_true, evP, evE, ev, setD, Nat.reduceAdd, Nat.reduceSub, reduceCtorEq, fillA, cutA, Nat.reduceLeDiff, Nat.reduceMul, Int.reduceLT, Int.reduceLE, Int.reduceEq, Int.reduceNe, Int.reduceAdd, Int.reduceSub, Int.reduceMul, Int.reduceNeg, Int.reduceToNat]
  refine q_use (laws_big s n) fun nC hn1 => ?_
  by_cases hb : 4096 < code.length
  · rw [decide_eq_true hb]
    simp (maxSteps := 2000000) -implicitDefEqProofs (disch := omega) only [xsW, xsC, if_true, if_false, ite_true, ite_false, forall_const, ne_eq, beq_self_eq_true, bne_self_eq_false, imp_self, true_implies, false_implies, implies_true, evP, evE, ev, setD, Nat.reduceAdd, Nat.reduceSub, reduceCtorEq, fillA, cutA, Nat.reduceLeDiff, Nat.reduceMul, Int.reduceLT, Int.reduceLE, Int.reduceEq, Int.reduceNe, Int.reduceAdd, Int.reduceSub, Int.reduceMul, Int.reduceNeg, Int.reduceToNat]
  rw [decide_eq_false hb]
  have hb' : code.length ≤ 4096 := by omega
  have hnC : hi ≤ nC := by omega
  simp (maxSteps := 2000000) -implicitDefEqProofs (disch := omega) only [xsW, xsC, if_true, if_false, ite_true, ite_false, forall_const, ne_eq, beq_self_eq_true, bne_self_eq_false, imp_self, true_implies, false_implies, implies_true, evP, evE, ev, setD, Nat.reduceAdd, Nat.reduceSub, reduceCtorEq, fillA, cutA, Nat.reduceLeDiff, Nat.reduceMul, Int.reduceLT, Int.reduceLE, Int.reduceEq, Int.reduceNe, Int.reduceAdd, Int.reduceSub, Int.reduceMul, Int.reduceNeg, Int.reduceToNat]
  refine fq_use (spec_DrawMinorOf s hb' hc nC hnC) fun x hC n2 hn2 hs2 ⟨v2, vs2, m, a, e, sm, fm, wa⟩ => ?_
  subst e
  obtain ⟨fm1, fm2⟩ := fm.big
  have sc := s.keep (h' := hC) fun i _ hi' => hs2 i (by omega)
  simp (maxSteps := 2000000) -implicitDefEqProofs (disch := omega) only [xsW, xsC, if_true, if_false, ite_true, ite_false, forall_const, ne_eq, beq_self_eq_true, bne_self_eq_false, imp_self, true_implies, false_implies, implies_true, evP, evE, ev, setD, Nat.reduceAdd, Nat.reduceSub, reduceCtorEq, fillA, cutA, Nat.reduceLeDiff, Nat.reduceMul, Int.reduceLT, Int.reduceLE, Int.reduceEq, Int.reduceNe, Int.reduceAdd, Int.reduceSub, Int.reduceMul, Int.reduceNeg, Int.reduceToNat]
  refine q_use (impl_MinorOf sm fm1 fm2 a n2 (Nat.le_refl _)) fun n3 hn3 => ?_
  simp (maxSteps := 2000000) -implicitDefEqProofs (disch := omega) only [xsW, xsC, if_true, if_false, ite_true, ite_false, forall_const, ne_eq, beq_self_eq_true, bne_self_eq_false, imp_self, true_implies, false_implies, implies_true, evP, evE, ev, setD, Nat.reduceAdd, Nat.reduceSub, reduceCtorEq, fillA, cutA, Nat.reduceLeDiff, Nat.reduceMul, Int.reduceLT, Int.reduceLE, Int.reduceEq, Int.reduceNe, Int.reduceAdd, Int.reduceSub, Int.reduceMul, Int.reduceNeg, Int.reduceToNat]
  refine q_use (spec_MinorOf sm fm1 fm2 a n3 (by omega)) fun nC hn4 => ?_
  replace hnC : hi ≤ nC := by omega
  simp (maxSteps := 2000000) -implicitDefEqProofs (disch := omega) only [xsW, xsC, if_true, if_false, ite_true, ite_false, forall_const, ne_eq, beq_self_eq_true, bne_self_eq_false, imp_self, true_implies, false_implies, implies_true, evP, evE, ev, setD, Nat.reduceAdd, Nat.reduceSub, reduceCtorEq, fillA, cutA, Nat.reduceLeDiff, Nat.reduceMul, Int.reduceLT, Int.reduceLE, Int.reduceEq, Int.reduceNe, Int.reduceAdd, Int.reduceSub, Int.reduceMul, Int.reduceNeg, Int.reduceToNat]
  refine cd_dec (fun c1 => ?_) (fun c1 => ?_) <;> simp (maxSteps := 2000000) -implicitDefEqProofs (disch := omega) only [xsW, xsC, if_true, if_false, ite_true, ite_false, forall_const, ne_eq, beq_self_eq_true, bne_self_eq_false, imp_self, true_implies, false_implies, implies_true, evP, evE, ev, setD, Nat.reduceAdd, Nat.reduceSub, reduceCtorEq, fillA, cutA, Nat.reduceLeDiff, Nat.reduceMul, Int.reduceLT, Int.reduceLE, Int.reduceEq, Int.reduceNe, Int.reduceAdd, Int.reduceSub, Int.reduceMul, Int.reduceNeg, Int.reduceToNat,  c1]
  -- the first one holds more
  have c1' := minorV_zero.1 c1
  have hm := (codeM_zero.1 c1').1
  have e1 : (minorV m a).1 = minorOf m a a := by rw [minorV_val c1']
  have q1 := impl_MinorBy sm fm1 fm2 a a nC (by omega)
  rw [minorByV_val c1'] at q1
  refine q_use q1 fun n5 hn5 => ?_
  simp (maxSteps := 2000000) -implicitDefEqProofs (disch := omega) only [xsW, xsC, if_true, if_false, ite_true, ite_false, forall_const, ne_eq, beq_self_eq_true, bne_self_eq_false, imp_self, true_implies, false_implies, implies_true, evP, evE, ev, setD, Nat.reduceAdd, Nat.reduceSub, reduceCtorEq, fillA, cutA, Nat.reduceLeDiff, Nat.reduceMul, Int.reduceLT, Int.reduceLE, Int.reduceEq, Int.reduceNe, Int.reduceAdd, Int.reduceSub, Int.reduceMul, Int.reduceNeg, Int.reduceToNat]
  have q2 := impl_NegativeSets sm fm1 fm2 n5 (by omega)
  rw [negV_zero hm] at q2
  refine fq_use q2 fun x3 hC nD hn6 hs6 ⟨v3, e3, s3⟩ => ?_
  subst e3
  replace sc := sc.keep (h' := hC) fun i _ hi' => hs6 i (by omega)
  simp (maxSteps := 2000000) -implicitDefEqProofs (disch := omega) only [xsW, xsC, if_true, if_false, ite_true, ite_false, forall_const, ne_eq, beq_self_eq_true, bne_self_eq_false, imp_self, true_implies, false_implies, implies_true, evP, evE, ev, setD, Nat.reduceAdd, Nat.reduceSub, reduceCtorEq, fillA, cutA, Nat.reduceLeDiff, Nat.reduceMul, Int.reduceLT, Int.reduceLE, Int.reduceEq, Int.reduceNe, Int.reduceAdd, Int.reduceSub, Int.reduceMul, Int.reduceNeg, Int.reduceToNat]
  refine q_use (laws_hasInt s3 (negV_len m) a nD) fun nC hn7 => ?_
  rw [show decide (a ∈ (negV m).1) = decide (minorOf m a a < 0) from decide_eq_decide.2 (neg_said c1')]
  replace hnC : hi ≤ nC := by omega
  clear s3 hs6 q1 q2 sm hs2
  simp (maxSteps := 2000000) -implicitDefEqProofs (disch := omega) only [xsW, xsC, if_true, if_false, ite_true, ite_false, forall_const, ne_eq, beq_self_eq_true, bne_self_eq_false, imp_self, true_implies, false_implies, implies_true, evP, evE, ev, setD, Nat.reduceAdd, Nat.reduceSub, reduceCtorEq, fillA, cutA, Nat.reduceLeDiff, Nat.reduceMul, Int.reduceLT, Int.reduceLE, Int.reduceEq, Int.reduceNe, Int.reduceAdd, Int.reduceSub, Int.reduceMul, Int.reduceNeg, Int.reduceToNat,  e1]
  all_goals
    refine fq_use (spec_DrawSymmetricPart sc hb' hc nC hnC) fun v4 h4 n4 hn4 hs4 ⟨vs4, M, sM, fM⟩ => ?_
    obtain ⟨fM1, fM2⟩ := fM.big
    have sc4 := sc.keep (h' := h4) fun i _ hi' => hs4 i (by omega)
    obtain ⟨cc, hcc⟩ : ∃ cc : Int, cc = (if isMat M = true then 0 else 1) := ⟨_, rfl⟩
    obtain ⟨r1, hr1⟩ : ∃ r1, r1 = (if isMat M = true then symF M else []) := ⟨_, rfl⟩
    obtain ⟨r2, hr2⟩ : ∃ r2, r2 = (if isMat M = true then cmpF2 M else []) := ⟨_, rfl⟩
    have b1 : r1.length ≤ 1048576 ∧ ∀ l ∈ r1, l.length ≤ 1048576 := by rw [hr1]; exact rows_small
    have b2 : r2.length ≤ 1048576 ∧ ∀ l ∈ r2, l.length ≤ 1048576 := by rw [hr2]; exact rows_small
    have b3 := signsV_small M
    simp (maxSteps := 2000000) -implicitDefEqProofs (disch := omega) only [xsW, xsC, if_true, if_false, ite_true, ite_false, forall_const, ne_eq, beq_self_eq_true, bne_self_eq_false, imp_self, true_implies, false_implies, implies_true, evP, evE, ev, setD, Nat.reduceAdd, Nat.reduceSub, reduceCtorEq, fillA, cutA, Nat.reduceLeDiff, Nat.reduceMul, Int.reduceLT, Int.reduceLE, Int.reduceEq, Int.reduceNe, Int.reduceAdd, Int.reduceSub, Int.reduceMul, Int.reduceNeg, Int.reduceToNat]
    refine fq_use (impl_SymmetricPart sM fM1 fM2 n4 (Nat.le_refl _)) fun x5 h5 n5 hn5 hs5 ⟨v5, vs5, r5, c5, e5, s5, er, ec⟩ => ?_
    rw [← hr1] at er; rw [← hcc] at ec; subst e5 er ec
    have sM5 := sM.keep (h' := h5) fun i _ hi' => hs5 i (by omega)
    simp (maxSteps := 2000000) -implicitDefEqProofs (disch := omega) only [xsW, xsC, if_true, if_false, ite_true, ite_false, forall_const, ne_eq, beq_self_eq_true, bne_self_eq_false, imp_self, true_implies, false_implies, implies_true, evP, evE, ev, setD, Nat.reduceAdd, Nat.reduceSub, reduceCtorEq, fillA, cutA, Nat.reduceLeDiff, Nat.reduceMul, Int.reduceLT, Int.reduceLE, Int.reduceEq, Int.reduceNe, Int.reduceAdd, Int.reduceSub, Int.reduceMul, Int.reduceNeg, Int.reduceToNat]
    refine fq_use (spec_SymmetricPart sM5 fM1 n5 (by omega)) fun x6 h6 n6 hn6 hs6 ⟨v6, vs6, r6, c6, e6, s6, er, ec⟩ => ?_
    rw [← hr1] at er; rw [← hcc] at ec; subst e6 er ec
    have sM6 := sM5.keep (h' := h6) fun i _ hi' => hs6 i (by omega)
    simp (maxSteps := 2000000) -implicitDefEqProofs (disch := omega) only [xsW, xsC, if_true, if_false, ite_true, ite_false, forall_const, ne_eq, beq_self_eq_true, bne_self_eq_false, imp_self, true_implies, false_implies, implies_true, evP, evE, ev, setD, Nat.reduceAdd, Nat.reduceSub, reduceCtorEq, fillA, cutA, Nat.reduceLeDiff, Nat.reduceMul, Int.reduceLT, Int.reduceLE, Int.reduceEq, Int.reduceNe, Int.reduceAdd, Int.reduceSub, Int.reduceMul, Int.reduceNeg, Int.reduceToNat]
    refine fq_use (impl_ComparisonOf sM6 fM1 fM2 n6 (by omega)) fun x7 h7 n7 hn7 hs7 ⟨v7, vs7, r7, c7, e7, s7, er, ec⟩ => ?_
    rw [← hr2] at er; rw [← hcc] at ec; subst e7 er ec
    have sM7 := sM6.keep (h' := h7) fun i _ hi' => hs7 i (by omega)
    simp (maxSteps := 2000000) -implicitDefEqProofs (disch := omega) only [xsW, xsC, if_true, if_false, ite_true, ite_false, forall_const, ne_eq, beq_self_eq_true, bne_self_eq_false, imp_self, true_implies, false_implies, implies_true, evP, evE, ev, setD, Nat.reduceAdd, Nat.reduceSub, reduceCtorEq, fillA, cutA, Nat.reduceLeDiff, Nat.reduceMul, Int.reduceLT, Int.reduceLE, Int.reduceEq, Int.reduceNe, Int.reduceAdd, Int.reduceSub, Int.reduceMul, Int.reduceNeg, Int.reduceToNat]
    refine fq_use (spec_ComparisonOf sM7 fM1 n7 (by omega)) fun x8 h8 n8 hn8 hs8 ⟨v8, vs8, r8, c8, e8, s8, er, ec⟩ => ?_
    rw [← hr2] at er; rw [← hcc] at ec; subst e8 er ec
    have sM8 := sM7.keep (h' := h8) fun i _ hi' => hs8 i (by omega)
    simp (maxSteps := 2000000) -implicitDefEqProofs (disch := omega) only [xsW, xsC, if_true, if_false, ite_true, ite_false, forall_const, ne_eq, beq_self_eq_true, bne_self_eq_false, imp_self, true_implies, false_implies, implies_true, evP, evE, ev, setD, Nat.reduceAdd, Nat.reduceSub, reduceCtorEq, fillA, cutA, Nat.reduceLeDiff, Nat.reduceMul, Int.reduceLT, Int.reduceLE, Int.reduceEq, Int.reduceNe, Int.reduceAdd, Int.reduceSub, Int.reduceMul, Int.reduceNeg, Int.reduceToNat]
    refine fq_use (impl_SignsOf sM8 fM1 fM2 n8 (by omega)) fun x9 h9 n9 hn9 hs9 ⟨v9, vs9, e9, s9⟩ => ?_
    subst e9
    have sM9 := sM8.keep (h' := h9) fun i _ hi' => hs9 i (by omega)
    simp (maxSteps := 2000000) -implicitDefEqProofs (disch := omega) only [xsW, xsC, if_true, if_false, ite_true, ite_false, forall_const, ne_eq, beq_self_eq_true, bne_self_eq_false, imp_self, true_implies, false_implies, implies_true, evP, evE, ev, setD, Nat.reduceAdd, Nat.reduceSub, reduceCtorEq, fillA, cutA, Nat.reduceLeDiff, Nat.reduceMul, Int.reduceLT, Int.reduceLE, Int.reduceEq, Int.reduceNe, Int.reduceAdd, Int.reduceSub, Int.reduceMul, Int.reduceNeg, Int.reduceToNat]
    refine fq_use (spec_SignsOf sM9 fM1 fM2 n9 (by omega)) fun x0 hC n0 hn0 hs0 ⟨v0, vs0, e0, s0⟩ => ?_
    subst e0
    simp (maxSteps := 2000000) -implicitDefEqProofs (disch := omega) only [xsW, xsC, if_true, if_false, ite_true, ite_false, forall_const, ne_eq, beq_self_eq_true, bne_self_eq_false, imp_self, true_implies, false_implies, implies_true, evP, evE, ev, setD, Nat.reduceAdd, Nat.reduceSub, reduceCtorEq, fillA, cutA, Nat.reduceLeDiff, Nat.reduceMul, Int.reduceLT, Int.reduceLE, Int.reduceEq, Int.reduceNe, Int.reduceAdd, Int.reduceSub, Int.reduceMul, Int.reduceNeg, Int.reduceToNat]
    have t5 := s5.keep (h' := hC) fun i _ hi' => by rw [hs0 i (by omega), hs9 i (by omega), hs8 i (by omega), hs7 i (by omega), hs6 i (by omega)]
    have t6 := s6.keep (h' := hC) fun i _ hi' => by rw [hs0 i (by omega), hs9 i (by omega), hs8 i (by omega), hs7 i (by omega)]
    have t7 := s7.keep (h' := hC) fun i _ hi' => by rw [hs0 i (by omega), hs9 i (by omega), hs8 i (by omega)]
    have t8 := s8.keep (h' := hC) fun i _ hi' => by rw [hs0 i (by omega), hs9 i (by omega)]
    have t9 := s9.keep (h' := hC) fun i _ hi' => hs0 i (by omega)
    replace sc := sc4.keep (h' := hC) fun i _ hi' => by rw [hs0 i (by omega), hs9 i (by omega), hs8 i (by omega), hs7 i (by omega), hs6 i (by omega), hs5 i (by omega)]
    clear sM sM5 sM6 sM7 sM8 sM9 s5 s6 s7 s8 s9 sc4 hs4 hs5 hs6 hs7 hs8 hs9 hs0
    refine q_use (laws_rows5_eq t5 t6 b1 n0) fun m1 hm1 => ?_
    simp (maxSteps := 2000000) -implicitDefEqProofs (disch := omega) only [xsW, xsC, if_true, if_false, ite_true, ite_false, forall_const, ne_eq, beq_self_eq_true, bne_self_eq_false, imp_self, true_implies, false_implies, implies_true, evP, evE, ev, setD, Nat.reduceAdd, Nat.reduceSub, reduceCtorEq, fillA, cutA, Nat.reduceLeDiff, Nat.reduceMul, Int.reduceLT, Int.reduceLE, Int.reduceEq, Int.reduceNe, Int.reduceAdd, Int.reduceSub, Int.reduceMul, Int.reduceNeg, Int.reduceToNat]
    refine q_use (laws_rows5_eq t7 t8 b2 m1) fun m2 hm2 => ?_
    simp (maxSteps := 2000000) -implicitDefEqProofs (disch := omega) only [xsW, xsC, if_true, if_false, ite_true, ite_false, forall_const, ne_eq, beq_self_eq_true, bne_self_eq_false, imp_self, true_implies, false_implies, implies_true, evP, evE, ev, setD, Nat.reduceAdd, Nat.reduceSub, reduceCtorEq, fillA, cutA, Nat.reduceLeDiff, Nat.reduceMul, Int.reduceLT, Int.reduceLE, Int.reduceEq, Int.reduceNe, Int.reduceAdd, Int.reduceSub, Int.reduceMul, Int.reduceNeg, Int.reduceToNat]
    refine q_use (laws_rows5_eq t9 s0 b3 m2) fun nC hm3 => ?_
    replace hnC : hi ≤ nC := by omega
    simp (maxSteps := 2000000) -implicitDefEqProofs (disch := omega) only [xsW, xsC, if_true, if_false, ite_true, ite_false, forall_const, ne_eq, beq_self_eq_true, bne_self_eq_false, imp_self, true_implies, false_implies, implies_true, evP, evE, ev, setD, Nat.reduceAdd, Nat.reduceSub, reduceCtorEq, fillA, cutA, Nat.reduceLeDiff, Nat.reduceMul, Int.reduceLT, Int.reduceLE, Int.reduceEq, Int.reduceNe, Int.reduceAdd, Int.reduceSub, Int.reduceMul, Int.reduceNeg, Int.reduceToNat]
    refine cd_dec (fun c2 => ?_) (fun c2 => ?_) <;> simp (maxSteps := 2000000) -implicitDefEqProofs (disch := omega) only [xsW, xsC, if_true, if_false, ite_true, ite_false, forall_const, ne_eq, beq_self_eq_true, bne_self_eq_false, imp_self, true_implies, false_implies, implies_true, evP, evE, ev, setD, Nat.reduceAdd, Nat.reduceSub, reduceCtorEq, fillA, cutA, Nat.reduceLeDiff, Nat.reduceMul, Int.reduceLT, Int.reduceLE, Int.reduceEq, Int.reduceNe, Int.reduceAdd, Int.reduceSub, Int.reduceMul, Int.reduceNeg, Int.reduceToNat,  c2]
    -- the comparison matrix again
    have hM : isMat M = true := by
      by_cases h : isMat M = true
      · exact h
      · rw [if_neg h] at hcc; omega
    rw [if_pos hM] at hr2
    have hM2 : isMat r8 = true := by rw [hr2]; exact cmp_mat hM
    have hA : cmpF2 r8 = r8 := by rw [hr2]; exact cmp_again M
    refine fq_use (impl_ComparisonOf t7 b2.1 b2.2 nC (by omega)) fun xA hC nA hnA hsA ⟨vA, vsA, rA, cA, eA, sA, er, ec⟩ => ?_
    rw [if_pos hM2, hA] at er; rw [if_pos hM2] at ec; subst eA er ec
    have t7' := t7.keep (h' := hC) fun i _ hi' => hsA i (by omega)
    replace sc := sc.keep (h' := hC) fun i _ hi' => hsA i (by omega)
    simp (maxSteps := 2000000) -implicitDefEqProofs (disch := omega) only [xsW, xsC, if_true, if_false, ite_true, ite_false, forall_const, ne_eq, beq_self_eq_true, bne_self_eq_false, imp_self, true_implies, false_implies, implies_true, evP, evE, ev, setD, Nat.reduceAdd, Nat.reduceSub, reduceCtorEq, fillA, cutA, Nat.reduceLeDiff, Nat.reduceMul, Int.reduceLT, Int.reduceLE, Int.reduceEq, Int.reduceNe, Int.reduceAdd, Int.reduceSub, Int.reduceMul, Int.reduceNeg, Int.reduceToNat]
    refine q_use (laws_rows5_eq sA t7' b2 nA) fun nC hm4 => ?_
    replace hnC : hi ≤ nC := by omega
    simp (maxSteps := 2000000) -implicitDefEqProofs (disch := omega) only [xsW, xsC, if_true, if_false, ite_true, ite_false, forall_const, ne_eq, beq_self_eq_true, bne_self_eq_false, imp_self, true_implies, false_implies, implies_true, evP, evE, ev, setD, Nat.reduceAdd, Nat.reduceSub, reduceCtorEq, fillA, cutA, Nat.reduceLeDiff, Nat.reduceMul, Int.reduceLT, Int.reduceLE, Int.reduceEq, Int.reduceNe, Int.reduceAdd, Int.reduceSub, Int.reduceMul, Int.reduceNeg, Int.reduceToNat]
    all_goals
      clear t5 t6 t7 t8 t9 s0 b1 b2 b3
      refine fq_use (spec_DrawMinorBy sc hb' hc nC hnC) fun x4 h4 n4 hn4 hs4 ⟨v4, vs4, K, ka, kb, ek, sK, fK, wka, wkb⟩ => ?_
      subst ek
      obtain ⟨fK1, fK2⟩ := fK.big
      replace sc := sc.keep (h' := h4) fun i _ hi' => hs4 i (by omega)
      simp (maxSteps := 2000000) -implicitDefEqProofs (disch := omega) only [xsW, xsC, if_true, if_false, ite_true, ite_false, forall_const, ne_eq, beq_self_eq_true, bne_self_eq_false, imp_self, true_implies, false_implies, implies_true, evP, evE, ev, setD, Nat.reduceAdd, Nat.reduceSub, reduceCtorEq, fillA, cutA, Nat.reduceLeDiff, Nat.reduceMul, Int.reduceLT, Int.reduceLE, Int.reduceEq, Int.reduceNe, Int.reduceAdd, Int.reduceSub, Int.reduceMul, Int.reduceNeg, Int.reduceToNat]
      refine q_use (impl_MinorBy sK fK1 fK2 ka kb n4 (Nat.le_refl _)) fun n5 hn5 => ?_
      simp (maxSteps := 2000000) -implicitDefEqProofs (disch := omega) only [xsW, xsC, if_true, if_false, ite_true, ite_false, forall_const, ne_eq, beq_self_eq_true, bne_self_eq_false, imp_self, true_implies, false_implies, implies_true, evP, evE, ev, setD, Nat.reduceAdd, Nat.reduceSub, reduceCtorEq, fillA, cutA, Nat.reduceLeDiff, Nat.reduceMul, Int.reduceLT, Int.reduceLE, Int.reduceEq, Int.reduceNe, Int.reduceAdd, Int.reduceSub, Int.reduceMul, Int.reduceNeg, Int.reduceToNat]
      refine q_use (spec_MinorBy sK fK1 fK2 ka kb n5 (by omega)) fun n6 hn6 => ?_
      simp (maxSteps := 2000000) -implicitDefEqProofs (disch := omega) only [xsW, xsC, if_true, if_false, ite_true, ite_false, forall_const, ne_eq, beq_self_eq_true, bne_self_eq_false, imp_self, true_implies, false_implies, implies_true, evP, evE, ev, setD, Nat.reduceAdd, Nat.reduceSub, reduceCtorEq, fillA, cutA, Nat.reduceLeDiff, Nat.reduceMul, Int.reduceLT, Int.reduceLE, Int.reduceEq, Int.reduceNe, Int.reduceAdd, Int.reduceSub, Int.reduceMul, Int.reduceNeg, Int.reduceToNat]
      refine fq_use (spec_DrawCountNegative sc hb' hc n6 (by omega)) fun v7 h7 n7 hn7 hs7 ⟨vs7, L, sL, fL⟩ => ?_
      obtain ⟨fL1, fL2⟩ := fL.big
      replace sc := sc.keep (h' := h7) fun i _ hi' => hs7 i (by omega)
      simp (maxSteps := 2000000) -implicitDefEqProofs (disch := omega) only [xsW, xsC, if_true, if_false, ite_true, ite_false, forall_const, ne_eq, beq_self_eq_true, bne_self_eq_false, imp_self, true_implies, false_implies, implies_true, evP, evE, ev, setD, Nat.reduceAdd, Nat.reduceSub, reduceCtorEq, fillA, cutA, Nat.reduceLeDiff, Nat.reduceMul, Int.reduceLT, Int.reduceLE, Int.reduceEq, Int.reduceNe, Int.reduceAdd, Int.reduceSub, Int.reduceMul, Int.reduceNeg, Int.reduceToNat]
      refine q_use (impl_CountNegative sL fL1 fL2 n7 (Nat.le_refl _)) fun n8 hn8 => ?_
      simp (maxSteps := 2000000) -implicitDefEqProofs (disch := omega) only [xsW, xsC, if_true, if_false, ite_true, ite_false, forall_const, ne_eq, beq_self_eq_true, bne_self_eq_false, imp_self, true_implies, false_implies, implies_true, evP, evE, ev, setD, Nat.reduceAdd, Nat.reduceSub, reduceCtorEq, fillA, cutA, Nat.reduceLeDiff, Nat.reduceMul, Int.reduceLT, Int.reduceLE, Int.reduceEq, Int.reduceNe, Int.reduceAdd, Int.reduceSub, Int.reduceMul, Int.reduceNeg, Int.reduceToNat]
      refine q_use (spec_CountNegative sL fL1 fL2 n8 (by omega)) fun n9 hn9 => ?_
      simp (maxSteps := 2000000) -implicitDefEqProofs (disch := omega) only [xsW, xsC, if_true, if_false, ite_true, ite_false, forall_const, ne_eq, beq_self_eq_true, bne_self_eq_false, imp_self, true_implies, false_implies, implies_true, evP, evE, ev, setD, Nat.reduceAdd, Nat.reduceSub, reduceCtorEq, fillA, cutA, Nat.reduceLeDiff, Nat.reduceMul, Int.reduceLT, Int.reduceLE, Int.reduceEq, Int.reduceNe, Int.reduceAdd, Int.reduceSub, Int.reduceMul, Int.reduceNeg, Int.reduceToNat]
      refine fq_use (spec_DrawAddMatrices sc hb' hc n9 (by omega)) fun x10 h10 n10 hn10 hs10 ⟨v10, vs10, AM, ca, e10, sA1, fA, wca⟩ => ?_
      subst e10
      obtain ⟨fA1, fA2⟩ := fA.big
      obtain ⟨kk, hkk⟩ : ∃ kk : Int, kk = addC AM ca := ⟨_, rfl⟩
      obtain ⟨ra, hra⟩ : ∃ ra, ra = addR AM ca := ⟨_, rfl⟩
      have bA : ra.length ≤ 1048576 ∧ ∀ l ∈ ra, l.length ≤ 1048576 := by rw [hra]; exact addR_small AM ca ⟨fA1, fA2⟩
      have sL2 := sL.keep (h' := h10) fun i _ hi' => hs10 i (by omega)
      replace sc := sc.keep (h' := h10) fun i _ hi' => hs10 i (by omega)
      simp (maxSteps := 2000000) -implicitDefEqProofs (disch := omega) only [xsW, xsC, if_true, if_false, ite_true, ite_false, forall_const, ne_eq, beq_self_eq_true, bne_self_eq_false, imp_self, true_implies, false_implies, implies_true, evP, evE, ev, setD, Nat.reduceAdd, Nat.reduceSub, reduceCtorEq, fillA, cutA, Nat.reduceLeDiff, Nat.reduceMul, Int.reduceLT, Int.reduceLE, Int.reduceEq, Int.reduceNe, Int.reduceAdd, Int.reduceSub, Int.reduceMul, Int.reduceNeg, Int.reduceToNat]
      refine fq_use (impl_AddMatrices sA1 fA1 fA2 ca n10 (Nat.le_refl _)) fun x11 h11 n11 hn11 hs11 ⟨v11, vs11, r11, k11, e11, s11, er, ec⟩ => ?_
      rw [← hra] at er; rw [← hkk] at ec; subst e11 er ec
      have sA2 := sA1.keep (h' := h11) fun i _ hi' => hs11 i (by omega)
      simp (maxSteps := 2000000) -implicitDefEqProofs (disch := omega) only [xsW, xsC, if_true, if_false, ite_true, ite_false, forall_const, ne_eq, beq_self_eq_true, bne_self_eq_false, imp_self, true_implies, false_implies, implies_true, evP, evE, ev, setD, Nat.reduceAdd, Nat.reduceSub, reduceCtorEq, fillA, cutA, Nat.reduceLeDiff, Nat.reduceMul, Int.reduceLT, Int.reduceLE, Int.reduceEq, Int.reduceNe, Int.reduceAdd, Int.reduceSub, Int.reduceMul, Int.reduceNeg, Int.reduceToNat]
      refine fq_use (spec_AddMatrices sA2 fA1 ca n11 (by omega)) fun x12 h12 n12 hn12 hs12 ⟨v12, vs12, r12, k12, e12, s12, er, ec⟩ => ?_
      rw [← hra] at er; rw [← hkk] at ec; subst e12 er ec
      replace sc := sc.keep (h' := h12) fun i _ hi' => by rw [hs12 i (by omega), hs11 i (by omega)]
      simp (maxSteps := 2000000) -implicitDefEqProofs (disch := omega) only [xsW, xsC, if_true, if_false, ite_true, ite_false, forall_const, ne_eq, beq_self_eq_true, bne_self_eq_false, imp_self, true_implies, false_implies, implies_true, evP, evE, ev, setD, Nat.reduceAdd, Nat.reduceSub, reduceCtorEq, fillA, cutA, Nat.reduceLeDiff, Nat.reduceMul, Int.reduceLT, Int.reduceLE, Int.reduceEq, Int.reduceNe, Int.reduceAdd, Int.reduceSub, Int.reduceMul, Int.reduceNeg, Int.reduceToNat]
      refine fq_use (spec_DrawNegativeSets sc hb' hc n12 (by omega)) fun v13 h13 n13 hn13 hs13 ⟨vs13, R, sR, fR⟩ => ?_
      obtain ⟨fR1, fR2⟩ := fR.big
      simp (maxSteps := 2000000) -implicitDefEqProofs (disch := omega) only [xsW, xsC, if_true, if_false, ite_true, ite_false, forall_const, ne_eq, beq_self_eq_true, bne_self_eq_false, imp_self, true_implies, false_implies, implies_true, evP, evE, ev, setD, Nat.reduceAdd, Nat.reduceSub, reduceCtorEq, fillA, cutA, Nat.reduceLeDiff, Nat.reduceMul, Int.reduceLT, Int.reduceLE, Int.reduceEq, Int.reduceNe, Int.reduceAdd, Int.reduceSub, Int.reduceMul, Int.reduceNeg, Int.reduceToNat]
      refine fq_use (impl_NegativeSets sR fR1 fR2 n13 (Nat.le_refl _)) fun x14 h14 n14 hn14 hs14 ⟨v14, e14, s14⟩ => ?_
      subst e14
      have sR2 := sR.keep (h' := h14) fun i _ hi' => hs14 i (by omega)
      simp (maxSteps := 2000000) -implicitDefEqProofs (disch := omega) only [xsW, xsC, if_true, if_false, ite_true, ite_false, forall_const, ne_eq, beq_self_eq_true, bne_self_eq_false, imp_self, true_implies, false_implies, implies_true, evP, evE, ev, setD, Nat.reduceAdd, Nat.reduceSub, reduceCtorEq, fillA, cutA, Nat.reduceLeDiff, Nat.reduceMul, Int.reduceLT, Int.reduceLE, Int.reduceEq, Int.reduceNe, Int.reduceAdd, Int.reduceSub, Int.reduceMul, Int.reduceNeg, Int.reduceToNat]
      refine fq_use (spec_NegativeSets sR2 fR1 fR2 n14 (by omega)) fun x15 h15 n15 hn15 hs15 ⟨v15, e15, s15⟩ => ?_
      subst e15
      simp (maxSteps := 2000000) -implicitDefEqProofs (disch := omega) only [xsW, xsC, if_true, if_false, ite_true, ite_false, forall_const, ne_eq, beq_self_eq_true, bne_self_eq_false, imp_self, true_implies, false_implies, implies_true, evP, evE, ev, setD, Nat.reduceAdd, Nat.reduceSub, reduceCtorEq, fillA, cutA, Nat.reduceLeDiff, Nat.reduceMul, Int.reduceLT, Int.reduceLE, Int.reduceEq, Int.reduceNe, Int.reduceAdd, Int.reduceSub, Int.reduceMul, Int.reduceNeg, Int.reduceToNat]
      have t11 := s11.keep (h' := h15) fun i _ hi' => by rw [hs15 i (by omega), hs14 i (by omega), hs13 i (by omega), hs12 i (by omega)]
      have t12 := s12.keep (h' := h15) fun i _ hi' => by rw [hs15 i (by omega), hs14 i (by omega), hs13 i (by omega)]
      have t14 := s14.keep (h' := h15) fun i _ hi' => hs15 i (by omega)
      have tL := sL2.keep (h' := h15) fun i _ hi' => by rw [hs15 i (by omega), hs14 i (by omega), hs13 i (by omega), hs12 i (by omega), hs11 i (by omega)]
      refine q_use (laws_rows5_eq t11 t12 bA n15) fun n16 hn16 => ?_
      simp (maxSteps := 2000000) -implicitDefEqProofs (disch := omega) only [xsW, xsC, if_true, if_false, ite_true, ite_false, forall_const, ne_eq, beq_self_eq_true, bne_self_eq_false, imp_self, true_implies, false_implies, implies_true, evP, evE, ev, setD, Nat.reduceAdd, Nat.reduceSub, reduceCtorEq, fillA, cutA, Nat.reduceLeDiff, Nat.reduceMul, Int.reduceLT, Int.reduceLE, Int.reduceEq, Int.reduceNe, Int.reduceAdd, Int.reduceSub, Int.reduceMul, Int.reduceNeg, Int.reduceToNat]
      refine q_use (laws_likeInts_eq t14 s15 (negV_len R) n16) fun n17 hn17 => ?_
      simp (maxSteps := 2000000) -implicitDefEqProofs (disch := omega) only [xsW, xsC, if_true, if_false, ite_true, ite_false, forall_const, ne_eq, beq_self_eq_true, bne_self_eq_false, imp_self, true_implies, false_implies, implies_true, evP, evE, ev, setD, Nat.reduceAdd, Nat.reduceSub, reduceCtorEq, fillA, cutA, Nat.reduceLeDiff, Nat.reduceMul, Int.reduceLT, Int.reduceLE, Int.reduceEq, Int.reduceNe, Int.reduceAdd, Int.reduceSub, Int.reduceMul, Int.reduceNeg, Int.reduceToNat]
      (refine cd_dec (fun c5 => ?_) (fun c5 => ?_) <;> simp (maxSteps := 2000000) -implicitDefEqProofs (disch := omega) only [xsW, xsC, if_true, if_false, ite_true, ite_false, forall_const, ne_eq, beq_self_eq_true, bne_self_eq_false, imp_self, true_implies, false_implies, implies_true, evP, evE, ev, setD, Nat.reduceAdd, Nat.reduceSub, reduceCtorEq, fillA, cutA, Nat.reduceLeDiff, Nat.reduceMul, Int.reduceLT, Int.reduceLE, Int.reduceEq, Int.reduceNe, Int.reduceAdd, Int.reduceSub, Int.reduceMul, Int.reduceNeg, Int.reduceToNat,  c5])
      have hL : isMat L = true := cntV_zero.1 c5
      have hcnt := count_said hL
      have hlen := negV_len L
      have q18 := impl_NegativeSets tL fL1 fL2 n17 (by omega)
      rw [negV_zero hL] at q18
      refine fq_use q18 fun x18 h18 n18 hn18 hs18 ⟨v18, e18, s18⟩ => ?_
      subst e18
      simp (maxSteps := 2000000) -implicitDefEqProofs (disch := omega) only [xsW, xsC, if_true, if_false, ite_true, ite_false, forall_const, ne_eq, beq_self_eq_true, bne_self_eq_false, imp_self, true_implies, false_implies, implies_true, evP, evE, ev, setD, Nat.reduceAdd, Nat.reduceSub, reduceCtorEq, fillA, cutA, Nat.reduceLeDiff, Nat.reduceMul, Int.reduceLT, Int.reduceLE, Int.reduceEq, Int.reduceNe, Int.reduceAdd, Int.reduceSub, Int.reduceMul, Int.reduceNeg, Int.reduceToNat,  s18.ln]
end Go.Proofs.Ytkpibnhddhdooaa.L
