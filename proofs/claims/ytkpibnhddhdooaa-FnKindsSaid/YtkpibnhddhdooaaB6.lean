/- The statement on kinds. -/
import Derived.Test.YtkpibnhddhdooaaB5
set_option linter.unusedSimpArgs false
set_option linter.unusedVariables false
namespace Go.Proofs.Ytkpibnhddhdooaa.L
open Go
def c_laws_FnKinds : F := ⟨(.seq (.reg false [⟨some 2, .mv (.c (.bool false)), none⟩]) (.seq (.seq (.reg false [⟨some 40, .mv (.t 0), none⟩, ⟨some 41, .call (.f 18) [(.t 40)], none⟩]) (.cond (.t 41) (.seq (.reg false [⟨some 2, .mv (.c (.bool true)), none⟩]) .ret) .skip)) (.seq (.reg false [⟨some 42, .mv (.t 0), none⟩, ⟨some 43, .call (.f 44) [(.t 42)], none⟩, ⟨some 3, .mv (.t 43), none⟩]) (.seq (.reg false [⟨some 45, .mv (.t 3), none⟩, ⟨some 46, .call (.f 13) [(.t 45)], none⟩, ⟨some 44, .mv (.t 46), none⟩, ⟨some 47, .ext (.t 44) 0, none⟩, ⟨some 48, .ext (.t 44) 1, none⟩, ⟨some 4, .mv (.t 47), none⟩, ⟨some 5, .mv (.t 48), none⟩]) (.seq (.reg false [⟨some 50, .mv (.t 3), none⟩, ⟨some 51, .call (.f 12) [(.t 50)], none⟩, ⟨some 49, .mv (.t 51), none⟩, ⟨some 52, .ext (.t 49) 0, none⟩, ⟨some 53, .ext (.t 49) 1, none⟩, ⟨some 6, .mv (.t 52), none⟩, ⟨some 7, .mv (.t 53), none⟩]) (.seq (.reg false [⟨some 55, .mv (.t 3), none⟩, ⟨some 56, .call (.f 45) [(.t 55)], none⟩, ⟨some 54, .mv (.t 56), none⟩, ⟨some 57, .ext (.t 54) 0, none⟩, ⟨some 58, .ext (.t 54) 1, none⟩, ⟨some 8, .mv (.t 57), none⟩, ⟨some 9, .mv (.t 58), none⟩]) (.seq (.reg false [⟨some 60, .mv (.t 3), none⟩, ⟨some 61, .call (.f 46) [(.t 60)], none⟩, ⟨some 59, .mv (.t 61), none⟩, ⟨some 62, .ext (.t 59) 0, none⟩, ⟨some 63, .ext (.t 59) 1, none⟩, ⟨some 10, .mv (.t 62), none⟩, ⟨some 11, .mv (.t 63), none⟩]) (.seq (.seq (.reg false [⟨some 64, .mv (.t 5), none⟩, ⟨some 65, .mv (.t 7), none⟩, ⟨some 66, .bin .neq (.t 64) (.t 65), none⟩, ⟨some 67, .mv (.t 66), none⟩, ⟨some 68, .mv (.t 4), some (67, false)⟩, ⟨some 69, .mv (.t 6), some (67, false)⟩, ⟨some 70, .call (.f 43) [(.t 68), (.t 69)], some (67, false)⟩, ⟨some 71, .un .not (.t 70), some (67, false)⟩, ⟨some 72, .pick (.t 67) (.c (.bool true)) (.t 71), none⟩, ⟨some 73, .mv (.t 72), none⟩, ⟨some 74, .mv (.t 9), some (73, false)⟩, ⟨some 75, .mv (.t 11), some (73, false)⟩, ⟨some 76, .bin .neq (.t 74) (.t 75), some (73, false)⟩, ⟨some 77, .pick (.t 73) (.c (.bool true)) (.t 76), none⟩, ⟨some 78, .mv (.t 77), none⟩, ⟨some 79, .mv (.t 8), some (78, false)⟩, ⟨some 80, .mv (.t 10), some (78, false)⟩, ⟨some 81, .call (.f 43) [(.t 79), (.t 80)], some (78, false)⟩, ⟨some 82, .un .not (.t 81), some (78, false)⟩, ⟨some 83, .pick (.t 78) (.c (.bool true)) (.t 82), none⟩, ⟨some 84, .mv (.t 83), none⟩, ⟨some 85, .mv (.t 3), some (84, false)⟩, ⟨some 86, .call (.f 47) [(.t 85)], some (84, false)⟩, ⟨some 87, .mv (.t 3), some (84, false)⟩, ⟨some 88, .call (.f 48) [(.t 87)], some (84, false)⟩, ⟨some 89, .beq true (.t 86) (.t 88), some (84, false)⟩, ⟨some 90, .pick (.t 84) (.c (.bool true)) (.t 89), none⟩]) (.cond (.t 90) (.seq (.reg false [⟨some 2, .mv (.c (.bool false)), none⟩]) .ret) .skip)) (.seq (.seq (.reg false [⟨some 91, .mv (.t 5), none⟩, ⟨some 92, .bin .eql (.t 91) (.c (.int .i64 0)), none⟩]) (.cond (.t 92) (.seq (.reg false [⟨some 12, .mv (.c (.bool true)), none⟩, ⟨some 13, .mv (.c (.bool true)), none⟩]) (.seq (.seq (.reg false [⟨some 14, .mv (.c (.int .i64 0)), none⟩]) (.block 0 (.loop (.seq (.seq (.reg false [⟨some 93, .mv (.t 14), none⟩, ⟨some 94, .mv (.t 8), none⟩, ⟨some 95, .len (.t 94), none⟩, ⟨some 96, .bin .lss (.t 93) (.t 95), none⟩]) (.cond (.t 96) .skip (.exit 0))) (.seq (.block 1 (.seq (.reg false [⟨some 99, .mv (.t 12), none⟩, ⟨some 100, .mv (.t 99), none⟩, ⟨some 101, .mv (.t 8), some (100, true)⟩, ⟨some 102, .mv (.t 14), some (100, true)⟩, ⟨some 103, .ia 1 (.t 101) (.t 102), some (100, true)⟩, ⟨some 104, .ld1 (.t 103), some (100, true)⟩, ⟨some 105, .bin .gtr (.t 104) (.c (.int .i64 0)), some (100, true)⟩, ⟨some 106, .pick (.t 100) (.t 105) (.c (.bool false)), none⟩, ⟨some 12, .mv (.t 106), none⟩]) (.reg false [⟨some 107, .mv (.t 13), none⟩, ⟨some 108, .mv (.t 107), none⟩, ⟨some 109, .mv (.t 8), some (108, true)⟩, ⟨some 110, .mv (.t 14), some (108, true)⟩, ⟨some 111, .ia 1 (.t 109) (.t 110), some (108, true)⟩, ⟨some 112, .ld1 (.t 111), some (108, true)⟩, ⟨some 113, .bin .geq (.t 112) (.c (.int .i64 0)), some (108, true)⟩, ⟨some 114, .pick (.t 108) (.t 113) (.c (.bool false)), none⟩, ⟨some 13, .mv (.t 114), none⟩]))) (.reg false [⟨some 97, .mv (.t 14), none⟩, ⟨some 98, .bin .add (.t 97) (.c (.int .i64 1)), none⟩, ⟨some 14, .mv (.t 98), none⟩])))))) (.seq (.seq (.reg false [⟨some 115, .mv (.t 4), none⟩, ⟨some 116, .ia 1 (.t 115) (.c (.int .i64 0)), none⟩, ⟨some 117, .ld1 (.t 116), none⟩, ⟨some 118, .bin .eql (.t 117) (.c (.int .i64 1)), none⟩, ⟨some 119, .mv (.t 12), none⟩, ⟨some 120, .beq true (.t 118) (.t 119), none⟩, ⟨some 121, .mv (.t 120), none⟩, ⟨some 122, .mv (.t 4), some (121, false)⟩, ⟨some 123, .ia 1 (.t 122) (.c (.int .i64 1)), some (121, false)⟩, ⟨some 124, .ld1 (.t 123), some (121, false)⟩, ⟨some 125, .bin .eql (.t 124) (.c (.int .i64 1)), some (121, false)⟩, ⟨some 126, .mv (.t 13), some (121, false)⟩, ⟨some 127, .beq true (.t 125) (.t 126), some (121, false)⟩, ⟨some 128, .pick (.t 121) (.c (.bool true)) (.t 127), none⟩]) (.cond (.t 128) (.seq (.reg false [⟨some 2, .mv (.c (.bool false)), none⟩]) .ret) .skip)) (.seq (.reg false [⟨some 129, .lit 2 1 2 [(.int .i64 0)] [(0, (.c (.int .i64 0))), (1, (.c (.int .i64 1)))], none⟩, ⟨some 130, .lit 2 1 2 [(.int .i64 0)] [(0, (.c (.int .i64 3))), (1, (.c (.int .i64 0)))], none⟩, ⟨some 131, .lit 2 1 2 [(.int .i64 0)] [(0, (.c (.int .i64 3))), (1, (.c (.int .i64 2)))], none⟩, ⟨some 132, .lit 2 1 2 [(.int .i64 0)] [(0, (.c (.int .i64 3))), (1, (.c (.int .i64 4)))], none⟩, ⟨some 133, .lit 2 1 2 [(.int .i64 0)] [(0, (.c (.int .i64 5))), (1, (.c (.int .i64 0)))], none⟩, ⟨some 134, .lit 2 1 2 [(.int .i64 0)] [(0, (.c (.int .i64 5))), (1, (.c (.int .i64 8)))], none⟩, ⟨some 135, .lit 2 1 2 [(.int .i64 0)] [(0, (.c (.int .i64 6))), (1, (.c (.int .i64 7)))], none⟩, ⟨some 136, .lit 2 1 2 [(.int .i64 0)] [(0, (.c (.int .i64 6))), (1, (.c (.int .i64 1)))], none⟩, ⟨some 137, .lit 2 1 2 [(.int .i64 0)] [(0, (.c (.int .i64 8))), (1, (.c (.int .i64 7)))], none⟩, ⟨some 138, .lit 2 1 2 [(.int .i64 0)] [(0, (.c (.int .i64 10))), (1, (.c (.int .i64 4)))], none⟩, ⟨some 139, .lit 29 1 10 [.nilsl] [(0, (.t 129)), (1, (.t 130)), (2, (.t 131)), (3, (.t 132)), (4, (.t 133)), (5, (.t 134)), (6, (.t 135)), (7, (.t 136)), (8, (.t 137)), (9, (.t 138))], none⟩, ⟨some 15, .mv (.t 139), none⟩]) (.seq (.seq (.reg false [⟨some 16, .mv (.c (.int .i64 0)), none⟩]) (.block 2 (.loop (.seq (.seq (.reg false [⟨some 140, .mv (.t 16), none⟩, ⟨some 141, .mv (.t 15), none⟩, ⟨some 142, .len (.t 141), none⟩, ⟨some 143, .bin .lss (.t 140) (.t 142), none⟩]) (.cond (.t 143) .skip (.exit 2))) (.seq (.block 3 (.seq (.reg false [⟨some 146, .mv (.t 4), none⟩, ⟨some 147, .mv (.t 15), none⟩, ⟨some 148, .mv (.t 16), none⟩, ⟨some 149, .ia 1 (.t 147) (.t 148), none⟩, ⟨some 150, .ld1 (.t 149), none⟩, ⟨some 151, .ia 1 (.t 150) (.c (.int .i64 0)), none⟩, ⟨some 152, .ld1 (.t 151), none⟩, ⟨some 153, .ia 1 (.t 146) (.t 152), none⟩, ⟨some 154, .ld1 (.t 153), none⟩, ⟨some 155, .bin .eql (.t 154) (.c (.int .i64 1)), none⟩, ⟨some 156, .mv (.t 155), none⟩, ⟨some 157, .mv (.t 4), some (156, true)⟩, ⟨some 158, .mv (.t 15), some (156, true)⟩, ⟨some 159, .mv (.t 16), some (156, true)⟩, ⟨some 160, .ia 1 (.t 158) (.t 159), some (156, true)⟩, ⟨some 161, .ld1 (.t 160), some (156, true)⟩, ⟨some 162, .ia 1 (.t 161) (.c (.int .i64 1)), some (156, true)⟩, ⟨some 163, .ld1 (.t 162), some (156, true)⟩, ⟨some 164, .ia 1 (.t 157) (.t 163), some (156, true)⟩, ⟨some 165, .ld1 (.t 164), some (156, true)⟩, ⟨some 166, .bin .eql (.t 165) (.c (.int .i64 0)), some (156, true)⟩, ⟨some 167, .pick (.t 156) (.t 166) (.c (.bool false)), none⟩]) (.cond (.t 167) (.seq (.reg false [⟨some 2, .mv (.c (.bool false)), none⟩]) .ret) .skip))) (.reg false [⟨some 144, .mv (.t 16), none⟩, ⟨some 145, .bin .add (.t 144) (.c (.int .i64 1)), none⟩, ⟨some 16, .mv (.t 145), none⟩])))))) (.seq (.reg false [⟨some 168, .mv (.t 0), none⟩, ⟨some 169, .call (.f 49) [(.t 168), (.c (.int .u64 43))], none⟩, ⟨some 17, .mv (.t 169), none⟩]) (.seq (.reg false [⟨some 18, .mv (.c (.int .i64 0)), none⟩]) (.block 4 (.loop (.seq (.seq (.reg false [⟨some 170, .mv (.t 18), none⟩, ⟨some 171, .bin .lss (.t 170) (.c (.int .i64 6)), none⟩]) (.cond (.t 171) .skip (.exit 4))) (.seq (.block 5 (.seq (.reg false [⟨some 174, .lit 2 1 0 [(.int .i64 0)] [], none⟩, ⟨some 175, .lit 2 1 0 [(.int .i64 0)] [], none⟩, ⟨some 19, .mv (.t 174), none⟩, ⟨some 20, .mv (.t 175), none⟩, ⟨some 21, .mv (.c (.bool true)), none⟩]) (.seq (.seq (.reg false [⟨some 22, .mv (.c (.int .i64 0)), none⟩]) (.block 6 (.loop (.seq (.seq (.reg false [⟨some 176, .mv (.t 22), none⟩, ⟨some 177, .mv (.t 3), none⟩, ⟨some 178, .len (.t 177), none⟩, ⟨some 179, .bin .lss (.t 176) (.t 178), none⟩]) (.cond (.t 179) .skip (.exit 6))) (.seq (.block 7 (.seq (.reg false [⟨some 182, .mv (.t 17), none⟩, ⟨some 183, .call (.f 50) [(.t 182), (.c (.int .i64 9))], none⟩, ⟨some 184, .bin .sub (.t 183) (.c (.int .i64 4)), none⟩, ⟨some 23, .mv (.t 184), none⟩]) (.seq (.reg false [⟨some 185, .mv (.t 19), none⟩, ⟨some 186, .mv (.t 23), none⟩, ⟨some 187, .lit 2 1 1 [(.int .i64 0)] [(0, (.t 186))], none⟩, ⟨some 188, .app 2 1 8 [(.int .i64 0)] (.t 185) (.t 187), none⟩, ⟨some 19, .mv (.t 188), none⟩]) (.seq (.reg false [⟨some 189, .mv (.t 20), none⟩, ⟨some 190, .mv (.t 23), none⟩, ⟨some 191, .mv (.t 23), none⟩, ⟨some 192, .un .neg (.t 191), none⟩, ⟨some 193, .mx [(.t 190), (.t 192)], none⟩, ⟨some 194, .lit 2 1 1 [(.int .i64 0)] [(0, (.t 193))], none⟩, ⟨some 195, .app 2 1 8 [(.int .i64 0)] (.t 189) (.t 194), none⟩, ⟨some 20, .mv (.t 195), none⟩]) (.reg false [⟨some 196, .mv (.t 21), none⟩, ⟨some 197, .mv (.t 196), none⟩, ⟨some 198, .mv (.t 23), some (197, true)⟩, ⟨some 199, .bin .eql (.t 198) (.c (.int .i64 0)), some (197, true)⟩, ⟨some 200, .pick (.t 197) (.t 199) (.c (.bool false)), none⟩, ⟨some 21, .mv (.t 200), none⟩]))))) (.reg false [⟨some 180, .mv (.t 22), none⟩, ⟨some 181, .bin .add (.t 180) (.c (.int .i64 1)), none⟩, ⟨some 22, .mv (.t 181), none⟩])))))) (.seq (.reg false [⟨some 202, .mv (.t 3), none⟩, ⟨some 203, .mv (.t 19), none⟩, ⟨some 204, .call (.f 51) [(.t 202), (.t 203)], none⟩, ⟨some 201, .mv (.t 204), none⟩, ⟨some 205, .ext (.t 201) 0, none⟩, ⟨some 206, .ext (.t 201) 1, none⟩, ⟨some 24, .mv (.t 205), none⟩, ⟨some 25, .mv (.t 206), none⟩]) (.seq (.reg false [⟨some 208, .mv (.t 3), none⟩, ⟨some 209, .mv (.t 20), none⟩, ⟨some 210, .call (.f 51) [(.t 208), (.t 209)], none⟩, ⟨some 207, .mv (.t 210), none⟩, ⟨some 211, .ext (.t 207) 0, none⟩, ⟨some 212, .ext (.t 207) 1, none⟩, ⟨some 26, .mv (.t 211), none⟩, ⟨some 27, .mv (.t 212), none⟩]) (.seq (.reg false [⟨some 213, .mv (.t 25), none⟩, ⟨some 214, .bin .neq (.t 213) (.c (.int .i64 0)), none⟩, ⟨some 215, .mv (.t 214), none⟩, ⟨some 216, .mv (.t 27), some (215, false)⟩, ⟨some 217, .bin .neq (.t 216) (.c (.int .i64 0)), some (215, false)⟩, ⟨some 218, .pick (.t 215) (.c (.bool true)) (.t 217), none⟩, ⟨some 219, .mv (.t 218), none⟩, ⟨some 220, .mv (.t 4), some (219, false)⟩, ⟨some 221, .ia 1 (.t 220) (.c (.int .i64 6)), some (219, false)⟩, ⟨some 222, .ld1 (.t 221), some (219, false)⟩, ⟨some 223, .bin .eql (.t 222) (.c (.int .i64 1)), some (219, false)⟩, ⟨some 224, .mv (.t 223), some (219, false)⟩, ⟨some 225, .mv (.t 24), some (224, true)⟩, ⟨some 226, .bin .lss (.t 225) (.c (.int .i64 0)), some (224, true)⟩, ⟨some 227, .pick (.t 224) (.t 226) (.c (.bool false)), some (219, false)⟩, ⟨some 228, .pick (.t 219) (.c (.bool true)) (.t 227), none⟩, ⟨some 229, .mv (.t 228), none⟩, ⟨some 230, .mv (.t 4), some (229, false)⟩, ⟨some 231, .ia 1 (.t 230) (.c (.int .i64 7)), some (229, false)⟩, ⟨some 232, .ld1 (.t 231), some (229, false)⟩, ⟨some 233, .bin .eql (.t 232) (.c (.int .i64 1)), some (229, false)⟩, ⟨some 234, .mv (.t 233), some (229, false)⟩, ⟨some 235, .mv (.t 26), some (234, true)⟩, ⟨some 236, .bin .lss (.t 235) (.c (.int .i64 0)), some (234, true)⟩, ⟨some 237, .pick (.t 234) (.t 236) (.c (.bool false)), some (229, false)⟩, ⟨some 238, .pick (.t 229) (.c (.bool true)) (.t 237), none⟩, ⟨some 239, .mv (.t 238), none⟩, ⟨some 240, .mv (.t 21), some (239, false)⟩, ⟨some 241, .un .not (.t 240), some (239, false)⟩, ⟨some 242, .mv (.t 241), some (239, false)⟩, ⟨some 243, .mv (.t 4), some (242, true)⟩, ⟨some 244, .ia 1 (.t 243) (.c (.int .i64 5)), some (242, true)⟩, ⟨some 245, .ld1 (.t 244), some (242, true)⟩, ⟨some 246, .bin .eql (.t 245) (.c (.int .i64 1)), some (242, true)⟩, ⟨some 247, .mv (.t 246), some (242, true)⟩, ⟨some 248, .mv (.t 24), some (247, true)⟩, ⟨some 249, .bin .leq (.t 248) (.c (.int .i64 0)), some (247, true)⟩, ⟨some 250, .pick (.t 247) (.t 249) (.c (.bool false)), some (242, true)⟩, ⟨some 251, .mv (.t 250), some (242, true)⟩, ⟨some 252, .mv (.t 4), some (251, false)⟩, ⟨some 253, .ia 1 (.t 252) (.c (.int .i64 8)), some (251, false)⟩, ⟨some 254, .ld1 (.t 253), some (251, false)⟩, ⟨some 255, .bin .eql (.t 254) (.c (.int .i64 1)), some (251, false)⟩, ⟨some 256, .mv (.t 255), some (251, false)⟩, ⟨some 257, .mv (.t 26), some (256, true)⟩, ⟨some 258, .bin .leq (.t 257) (.c (.int .i64 0)), some (256, true)⟩, ⟨some 259, .pick (.t 256) (.t 258) (.c (.bool false)), some (251, false)⟩, ⟨some 260, .pick (.t 251) (.c (.bool true)) (.t 259), some (242, true)⟩, ⟨some 261, .pick (.t 242) (.t 260) (.c (.bool false)), some (239, false)⟩, ⟨some 262, .pick (.t 239) (.c (.bool true)) (.t 261), none⟩]) (.cond (.t 262) (.seq (.reg false [⟨some 2, .mv (.c (.bool false)), none⟩]) .ret) .skip))))))) (.reg false [⟨some 172, .mv (.t 18), none⟩, ⟨some 173, .bin .add (.t 172) (.c (.int .i64 1)), none⟩, ⟨some 18, .mv (.t 173), none⟩])))))))))))) .skip)) (.seq (.reg false [⟨some 264, .mv (.t 0), none⟩, ⟨some 265, .call (.f 52) [(.t 264)], none⟩, ⟨some 263, .mv (.t 265), none⟩, ⟨some 266, .ext (.t 263) 0, none⟩, ⟨some 267, .ext (.t 263) 1, none⟩, ⟨some 28, .mv (.t 266), none⟩, ⟨some 29, .mv (.t 267), none⟩]) (.seq (.reg false [⟨some 269, .mv (.t 28), none⟩, ⟨some 270, .mv (.t 29), none⟩, ⟨some 271, .call (.f 10) [(.t 269), (.t 270)], none⟩, ⟨some 268, .mv (.t 271), none⟩, ⟨some 272, .ext (.t 268) 0, none⟩, ⟨some 273, .ext (.t 268) 1, none⟩, ⟨some 30, .mv (.t 272), none⟩, ⟨some 31, .mv (.t 273), none⟩]) (.seq (.reg false [⟨some 275, .mv (.t 28), none⟩, ⟨some 276, .mv (.t 29), none⟩, ⟨some 277, .call (.f 8) [(.t 275), (.t 276)], none⟩, ⟨some 274, .mv (.t 277), none⟩, ⟨some 278, .ext (.t 274) 0, none⟩, ⟨some 279, .ext (.t 274) 1, none⟩, ⟨some 32, .mv (.t 278), none⟩, ⟨some 33, .mv (.t 279), none⟩]) (.seq (.reg false [⟨some 281, .mv (.t 0), none⟩, ⟨some 282, .call (.f 53) [(.t 281)], none⟩, ⟨some 280, .mv (.t 282), none⟩, ⟨some 283, .ext (.t 280) 0, none⟩, ⟨some 284, .ext (.t 280) 1, none⟩, ⟨some 34, .mv (.t 283), none⟩, ⟨some 35, .mv (.t 284), none⟩]) (.seq (.reg false [⟨some 286, .mv (.t 34), none⟩, ⟨some 287, .mv (.t 35), none⟩, ⟨some 288, .call (.f 51) [(.t 286), (.t 287)], none⟩, ⟨some 285, .mv (.t 288), none⟩, ⟨some 289, .ext (.t 285) 0, none⟩, ⟨some 290, .ext (.t 285) 1, none⟩, ⟨some 36, .mv (.t 289), none⟩, ⟨some 37, .mv (.t 290), none⟩]) (.seq (.reg false [⟨some 292, .mv (.t 34), none⟩, ⟨some 293, .mv (.t 35), none⟩, ⟨some 294, .call (.f 54) [(.t 292), (.t 293)], none⟩, ⟨some 291, .mv (.t 294), none⟩, ⟨some 295, .ext (.t 291) 0, none⟩, ⟨some 296, .ext (.t 291) 1, none⟩, ⟨some 38, .mv (.t 295), none⟩, ⟨some 39, .mv (.t 296), none⟩]) (.seq (.reg false [⟨some 297, .mv (.t 31), none⟩, ⟨some 298, .mv (.t 33), none⟩, ⟨some 299, .bin .eql (.t 297) (.t 298), none⟩, ⟨some 300, .mv (.t 299), none⟩, ⟨some 301, .mv (.t 30), some (300, true)⟩, ⟨some 302, .mv (.t 32), some (300, true)⟩, ⟨some 303, .beq false (.t 301) (.t 302), some (300, true)⟩, ⟨some 304, .pick (.t 300) (.t 303) (.c (.bool false)), none⟩, ⟨some 305, .mv (.t 304), none⟩, ⟨some 306, .mv (.t 37), some (305, true)⟩, ⟨some 307, .mv (.t 39), some (305, true)⟩, ⟨some 308, .bin .eql (.t 306) (.t 307), some (305, true)⟩, ⟨some 309, .pick (.t 305) (.t 308) (.c (.bool false)), none⟩, ⟨some 310, .mv (.t 309), none⟩, ⟨some 311, .mv (.t 36), some (310, true)⟩, ⟨some 312, .mv (.t 38), some (310, true)⟩, ⟨some 313, .bin .eql (.t 311) (.t 312), some (310, true)⟩, ⟨some 314, .pick (.t 310) (.t 313) (.c (.bool false)), none⟩, ⟨some 2, .mv (.t 314), none⟩]) .ret)))))))))))))))), 315, [(.t 2)]⟩
theorem k_laws_FnKinds : compF Try.prog Try.f6 = some c_laws_FnKinds := by kernel_rfl

theorem kinds_get {ll : List (List Int)} {i : Nat} (hi : i < 12) : (kindsL ll 12).getD i 0 = if kindB ll (i : Int) = true then 1 else 0 := by
  rw [kindsL, rowOf_get hi]
theorem Few.big {ll : List (List Int)} (f : Few ll) : ll.length ≤ 1048576 ∧ ∀ l ∈ ll, l.length ≤ 1048576 := ⟨by have := f.1; omega, fun l hl => by have := f.2 l hl; omega⟩
theorem minorsV_small (ll : List (List Int)) : (minorsV ll).1.length ≤ 1048576 := by
  unfold minorsV
  split
  · rename_i hm
    have := pw_le ((isMat_iff ll).1 hm).2.1
    simp only [minorsL_len]; omega
  · simp
theorem kindsV_zero {ll : List (List Int)} : (kindsV ll).2 = 0 ↔ isMat ll = true := by
  unfold kindsV
  split
  · rename_i h; simp [h]
  · rename_i h; simp [h]
theorem run_inv {p : Nat → Prop} [DecidablePred p] {b : Bool} {k : Nat} (h : b = true ↔ ∀ j, j < k → p j) : (b && decide (p k)) = true ↔ ∀ j, j < k + 1 → p j := by
  rw [Bool.and_eq_true, decide_eq_true_eq, h]
  exact ⟨fun ⟨h1, h2⟩ j hj => by
    by_cases e : j = k
    · subst e; exact h2
    · exact h1 j (by omega), fun h1 => ⟨fun j hj => h1 j (by omega), h1 k (by omega)⟩⟩
theorem X_heap {P : Program} {n0 : Nat} {W : Nat → Prop} {c : C} {t : List AV} {h : AH} {n : Nat} {K : KT} (F : AH → Prop) (hF : F h) (k : ∀ h', F h' → X P n0 W c t h' n K) : X P n0 W c t h n K := k h hF
theorem formAt_tup (ll : List (List Int)) (l : List Int) : ∃ a c : Int, formAt ll l = .tup [.int .i64 a, .int .i64 c] := by
  unfold formAt
  split
  · split <;> exact ⟨_, _, rfl⟩
  · exact ⟨_, _, rfl⟩
def absL (l : List Int) : List Int := l.map fun x => (x.natAbs : Int)
theorem absL_len (l : List Int) : (absL l).length = l.length := by simp [absL]
theorem absL_snoc (l : List Int) (y : Int) : absL (l ++ [y]) = absL l ++ [max y (-y)] := by
  have : (y.natAbs : Int) = max y (-y) := by omega
  simp [absL, this]
theorem absL_get {l : List Int} {i : Nat} (h : i < l.length) : (absL l).getD i 0 = (l.getD i 0).natAbs := getD_map l _ i 0 0 h
theorem absL_bnd {l : List Int} (h : ∀ x ∈ l, -4 ≤ x ∧ x ≤ 4) : ∀ x ∈ absL l, -4 ≤ x ∧ x ≤ 4 := by
  intro x hx
  simp only [absL, List.mem_map] at hx
  obtain ⟨y, hy, rfl⟩ := hx
  have := h y hy; omega
theorem zero_inv {b : Bool} {l : List Int} {y : Int} (h : b = true ↔ ∀ x ∈ l, x = 0) : (b && decide (y = 0)) = true ↔ ∀ x ∈ l ++ [y], x = 0 := by
  rw [Bool.and_eq_true, decide_eq_true_eq, h]
  constructor
  · rintro ⟨h1, h2⟩ x hx
    rcases List.mem_append.1 hx with hx | hx
    · exact h1 x hx
    · simp only [List.mem_cons, List.not_mem_nil, or_false] at hx; rw [hx]; exact h2
  · intro h1
    exact ⟨fun x hx => h1 x (List.mem_append_left _ hx), h1 y (by simp)⟩
theorem formAt_ok {ll : List (List Int)} {l : List Int} (hm : isMat ll = true) (hl : l.length = ll.length) (hb : ∀ x ∈ l, -4 ≤ x ∧ x ≤ 4) : formAt ll l = .tup [.int .i64 (formOf ll l), .int .i64 0] := by
  unfold formAt
  rw [if_pos hm, if_pos ⟨hl, (within_iff _ _).2 fun i hi => by have := hb _ (getD_mem (d := 0) hi); omega⟩]
theorem kind_or {x : Int} {b : Bool} {p : Prop} (h : x = if b = true then 1 else 0) (hp : b = true → p) : (x = 1 ∧ p) ∨ x = 0 := by
  cases b with
  | true => exact .inl ⟨by simpa using h, hp rfl⟩
  | false => exact .inr (by simpa using h)
theorem app_int2 {lo n0 n : Nat} {W : Nat → Prop} {h : AH} {ty ty' : Nat} {v x u : AV} {l : List Int} {cs : List AV} {y : Int} {K : AV → AH → Nat → Prop} (a : Acc lo n h ty 1 v (ints l)) (b : Acc lo n h ty' 1 u cs) (hne : isSl v = true → isSl u = true → bid u ≠ bid v) (hlo : n0 ≤ lo) (hln : lo ≤ n) (hx : Src h 1 x 1 [.int .i64 y]) (hl : l.length ≤ 1048576)
    (k : ∀ v' h' n', n ≤ n' → Acc lo n' h' ty 1 v' (ints (l ++ [y])) → Acc lo n' h' ty' 1 u cs → (isSl v' = true → isSl u = true → bid u ≠ bid v') → (∀ j, j < lo → h' j = h j) → K v' h' n') : AppC n0 W ty 1 v x h n K := by
  have hs : slen v = l.length := by have := a.len; rw [ints_len] at this; omega
  exact app_acc a hlo hln hx rfl rfl (by omega) fun v' h' n' k1 _ k3 k4 k5 k6 => k v' h' n' k1 (by rw [← ints_snoc]; exact k3) ((b.keep1 fun hs => k4 _ (b.own hs).2 fun hv => hne hv hs).wide (Nat.le_refl _) k1)
    (fun h1 h2 => k6.elim (fun e => by rw [e.1] at h1 ⊢; exact hne h1 h2) fun e => by rw [e.2]; have := (b.own h2).2; omega) k5
theorem roll_use {hi : Nat} {h : AH} {v : AV} {code : List Int} {n0 n : Nat} {W : Nat → Prop} {d : Bool} {K : AV → AH → Nat → Prop} (s : Sl false 0 hi h 1 v (bytesA code)) (hl : code.length ≤ 4096) (hc : ∀ x ∈ code, 0 ≤ x ∧ x ≤ 255) (seed : Int) (hn : hi ≤ n)
    (k : ∀ h' n', n < n' → (∀ i, i < n → h' i = h i) → Dice hi n h' → K (.ptr n 0) h' n') : CallC Try.prog n0 W d 49 [v, .int .u64 seed] h n K :=
  fq_use (laws_roll s hl hc seed n hn) fun x h1 n1 hn1 hs ⟨e, hlt, r⟩ => by
    subst e
    exact k h1 n1 hlt hs (r.keep (show h1 n = if n = n then h1 n else h n by rw [if_pos rfl]) fun j hj => (show h1 j = if j = n then h1 j else h j by rw [if_neg (by omega)]; exact hs j (by omega)))
set_option maxRecDepth 100000 in
set_option maxHeartbeats 8000000 in
theorem laws_FnKinds {hi : Nat} {h : AH} {v : AV} {code : List Int} (s : Sl false 0 hi h 1 v (bytesA code)) (hc : ∀ x ∈ code, 0 ≤ x ∧ x ≤ 255) (n : Nat) (hn : hi ≤ n) :
    Q Try.prog 6 [v] h n (.bool true) := by
  refine q_intro Try.func6 k_laws_FnKinds ?_
  simp (maxSteps := 2000000) -implicitDefEqProofs (disch := omega) only [c_laws_FnKinds, xsW, xsC, xsD, xsE, fillA, reduceCtorEq, Nat.reduceAdd, Nat.reduceSub, Nat.reduceLeDiff, Nat.reduceMul, Int.reduceLT, Int.reduceLE, Int.reduceEq, Int.reduceNe, Int.reduceAdd, Int.reduceSub, Int.reduceMul, Int.reduceNeg, Int.reduceToNat]
  refine q_use (laws_big s n) fun nC hn1 => ?_
  by_cases hb : 4096 < code.length
  · rw [decide_eq_true hb]
    simp (maxSteps := 2000000) -implicitDefEqProofs (disch := omega) only [xsW, xsC, xsD, xsE, fillA, reduceCtorEq, Nat.reduceAdd, Nat.reduceSub, Nat.reduceLeDiff, Nat.reduceMul, Int.reduceLT, Int.reduceLE, Int.reduceEq, Int.reduceNe, Int.reduceAdd, Int.reduceSub, Int.reduceMul, Int.reduceNeg, Int.reduceToNat]
  rw [decide_eq_false hb]
  have hb' : code.length ≤ 4096 := by omega
  simp (maxSteps := 2000000) -implicitDefEqProofs (disch := omega) only [xsW, xsC, xsD, xsE, fillA, reduceCtorEq, Nat.reduceAdd, Nat.reduceSub, Nat.reduceLeDiff, Nat.reduceMul, Int.reduceLT, Int.reduceLE, Int.reduceEq, Int.reduceNe, Int.reduceAdd, Int.reduceSub, Int.reduceMul, Int.reduceNeg, Int.reduceToNat]
  refine fq_use (spec_DrawKindsOf s hb' hc nC (by omega)) fun v2 h2 n2 hn2 hs2 ⟨vs2, M, sM, fM⟩ => ?_
  obtain ⟨fM1, fM2⟩ := fM.big
  have sc2 := s.keep (h' := h2) fun i _ hi' => hs2 i (by omega)
  simp (maxSteps := 2000000) -implicitDefEqProofs (disch := omega) only [xsW, xsC, xsD, xsE, fillA, reduceCtorEq, Nat.reduceAdd, Nat.reduceSub, Nat.reduceLeDiff, Nat.reduceMul, Int.reduceLT, Int.reduceLE, Int.reduceEq, Int.reduceNe, Int.reduceAdd, Int.reduceSub, Int.reduceMul, Int.reduceNeg, Int.reduceToNat]
  refine fq_use (impl_KindsOf sM fM1 fM2 n2 (Nat.le_refl _)) fun x3 h3 n3 hn3 hs3 ⟨v3, e3, s3⟩ => ?_
  subst e3
  have sM3 := sM.keep (h' := h3) fun i _ hi' => hs3 i (by omega)
  simp (maxSteps := 2000000) -implicitDefEqProofs (disch := omega) only [xsW, xsC, xsD, xsE, fillA, reduceCtorEq, Nat.reduceAdd, Nat.reduceSub, Nat.reduceLeDiff, Nat.reduceMul, Int.reduceLT, Int.reduceLE, Int.reduceEq, Int.reduceNe, Int.reduceAdd, Int.reduceSub, Int.reduceMul, Int.reduceNeg, Int.reduceToNat]
  refine fq_use (spec_KindsOf sM3 fM1 fM2 n3 (by omega)) fun x4 h4 n4 hn4 hs4 ⟨v4, e4, s4⟩ => ?_
  subst e4
  have sM4 := sM3.keep (h' := h4) fun i _ hi' => hs4 i (by omega)
  simp (maxSteps := 2000000) -implicitDefEqProofs (disch := omega) only [xsW, xsC, xsD, xsE, fillA, reduceCtorEq, Nat.reduceAdd, Nat.reduceSub, Nat.reduceLeDiff, Nat.reduceMul, Int.reduceLT, Int.reduceLE, Int.reduceEq, Int.reduceNe, Int.reduceAdd, Int.reduceSub, Int.reduceMul, Int.reduceNeg, Int.reduceToNat]
  refine fq_use (impl_MinorsOf sM4 fM1 fM2 n4 (by omega)) fun x5 h5 n5 hn5 hs5 ⟨v5, e5, s5⟩ => ?_
  subst e5
  have sM5 := sM4.keep (h' := h5) fun i _ hi' => hs5 i (by omega)
  simp (maxSteps := 2000000) -implicitDefEqProofs (disch := omega) only [xsW, xsC, xsD, xsE, fillA, reduceCtorEq, Nat.reduceAdd, Nat.reduceSub, Nat.reduceLeDiff, Nat.reduceMul, Int.reduceLT, Int.reduceLE, Int.reduceEq, Int.reduceNe, Int.reduceAdd, Int.reduceSub, Int.reduceMul, Int.reduceNeg, Int.reduceToNat]
  refine fq_use (spec_MinorsOf sM5 fM1 fM2 n5 (by omega)) fun x6 h6 n6 hn6 hs6 ⟨v6, e6, s6⟩ => ?_
  subst e6
  have sM6 := sM5.keep (h' := h6) fun i _ hi' => hs6 i (by omega)
  have sc6 := sc2.keep (h' := h6) fun i _ hi' => by rw [hs6 i (by omega), hs5 i (by omega), hs4 i (by omega), hs3 i (by omega)]
  have t3 := s3.keep (h' := h6) fun i _ hi' => by rw [hs6 i (by omega), hs5 i (by omega), hs4 i (by omega)]
  have t4 := s4.keep (h' := h6) fun i _ hi' => by rw [hs6 i (by omega), hs5 i (by omega)]
  have t5 := s5.keep (h' := h6) fun i _ hi' => hs6 i (by omega)
  simp (maxSteps := 2000000) -implicitDefEqProofs (disch := omega) only [xsW, xsC, xsD, xsE, fillA, reduceCtorEq, Nat.reduceAdd, Nat.reduceSub, Nat.reduceLeDiff, Nat.reduceMul, Int.reduceLT, Int.reduceLE, Int.reduceEq, Int.reduceNe, Int.reduceAdd, Int.reduceSub, Int.reduceMul, Int.reduceNeg, Int.reduceToNat]
  refine q_use (laws_likeInts_eq t3 t4 (kindsV_small M) n6) fun n7 hn7 => ?_
  simp (maxSteps := 2000000) -implicitDefEqProofs (disch := omega) only [xsW, xsC, xsD, xsE, fillA, reduceCtorEq, Nat.reduceAdd, Nat.reduceSub, Nat.reduceLeDiff, Nat.reduceMul, Int.reduceLT, Int.reduceLE, Int.reduceEq, Int.reduceNe, Int.reduceAdd, Int.reduceSub, Int.reduceMul, Int.reduceNeg, Int.reduceToNat]
  refine q_use (laws_likeInts_eq t5 s6 (minorsV_small M) n7) fun n8 hn8 => ?_
  simp (maxSteps := 2000000) -implicitDefEqProofs (disch := omega) only [xsW, xsC, xsD, xsE, fillA, reduceCtorEq, Nat.reduceAdd, Nat.reduceSub, Nat.reduceLeDiff, Nat.reduceMul, Int.reduceLT, Int.reduceLE, Int.reduceEq, Int.reduceNe, Int.reduceAdd, Int.reduceSub, Int.reduceMul, Int.reduceNeg, Int.reduceToNat]
  refine q_use (impl_IsMatrix sM6 fM1 fM2 n8 (by omega)) fun n9 hn9 => ?_
  simp (maxSteps := 2000000) -implicitDefEqProofs (disch := omega) only [xsW, xsC, xsD, xsE, fillA, reduceCtorEq, Nat.reduceAdd, Nat.reduceSub, Nat.reduceLeDiff, Nat.reduceMul, Int.reduceLT, Int.reduceLE, Int.reduceEq, Int.reduceNe, Int.reduceAdd, Int.reduceSub, Int.reduceMul, Int.reduceNeg, Int.reduceToNat]
  refine q_use (spec_IsMatrix sM6 fM1 n9) fun n10 hn10 => ?_
  clear s3 s4 s5 s6 t4 sM sM3 sM4 sM5 sc2 s hs2 hs3 hs4 hs5 hs6
  simp (maxSteps := 2000000) -implicitDefEqProofs (disch := omega) only [xsW, xsC, xsD, xsE, fillA, reduceCtorEq, Nat.reduceAdd, Nat.reduceSub, Nat.reduceLeDiff, Nat.reduceMul, Int.reduceLT, Int.reduceLE, Int.reduceEq, Int.reduceNe, Int.reduceAdd, Int.reduceSub, Int.reduceMul, Int.reduceNeg, Int.reduceToNat]
  refine cd_dec (fun c1 => ?_) (fun c1 => ?_) <;> simp (maxSteps := 2000000) -implicitDefEqProofs (disch := omega) only [xsW, xsC, xsD, xsE, fillA, reduceCtorEq, Nat.reduceAdd, Nat.reduceSub, Nat.reduceLeDiff, Nat.reduceMul, Int.reduceLT, Int.reduceLE, Int.reduceEq, Int.reduceNe, Int.reduceAdd, Int.reduceSub, Int.reduceMul, Int.reduceNeg, Int.reduceToNat,  c1]
  · have hm := kindsV_zero.1 c1
    have hmn := ((isMat_iff M).1 hm).2.1
    have kv : (kindsV M).1 = kindsL M 12 := by unfold kindsV; rw [if_pos hm]
    have mv : (minorsV M).1 = minorsL M := by unfold minorsV; rw [if_pos hm]
    have hml := minorsL_len M
    have hpw := pw_le hmn
    rw [kv] at t3
    rw [mv] at t5
    obtain ⟨KL, hKL⟩ : ∃ KL, KL = kindsL M 12 := ⟨_, rfl⟩
    have hkl : KL.length = 12 := by rw [hKL, kindsL, rowOf_len]
    have hk01 : ∀ i, i < 12 → KL.getD i 0 = if kindB M (i : Int) = true then 1 else 0 := fun i hi => by rw [hKL, kinds_get hi]
    rw [← hKL] at t3
    refine loop_for (minorsL M).length 0 (fun k p => [v, .any, .bool false, v2, v3, .any, .any, .any, v5, .any, .any, .any, .bool p.1, .bool p.2, .int .i64 k, .any, .any, .any, .any, .any, .any, .any, .any, .any, .any, .any, .any, .any, .any, .any, .any, .any, .any, .any, .any, .any, .any, .any, .any, .any, .any, .any, .any, .any, .any, .any, .any, .any, .any, .any, .any, .any, .any, .any, .any, .any, .any, .any, .any, .any, .any, .any, .any, .any, .any, .any, .any, .any, .any, .any, .any, .any, .any, .any, .any, .any, .any, .any, .any, .any, .any, .any, .any, .any, .any, .any, .any, .any, .any, .any, .any, .any, .any, .any, .any, .any, .any, .any, .any, .any, .any, .any, .any, .any, .any, .any, .any, .any, .any, .any, .any, .any, .any, .any, .any, .any, .any, .any, .any, .any, .any, .any, .any, .any, .any, .any, .any, .any, .any, .any, .any, .any, .any, .any, .any, .any, .any, .any, .any, .any, .any, .any, .any, .any, .any, .any, .any, .any, .any, .any, .any, .any, .any, .any, .any, .any, .any, .any, .any, .any, .any, .any, .any, .any, .any, .any, .any, .any, .any, .any, .any, .any, .any, .any, .any, .any, .any, .any, .any, .any, .any, .any, .any, .any, .any, .any, .any, .any, .any, .any, .any, .any, .any, .any, .any, .any, .any, .any, .any, .any, .any, .any, .any, .any, .any, .any, .any, .any, .any, .any, .any, .any, .any, .any, .any, .any, .any, .any, .any, .any, .any, .any, .any, .any, .any, .any, .any, .any, .any, .any, .any, .any, .any, .any, .any, .any, .any, .any, .any, .any, .any, .any, .any, .any, .any, .any, .any, .any, .any, .any, .any, .any, .any, .any, .any, .any, .any, .any, .any, .any, .any, .any, .any, .any, .any, .any, .any, .any, .any, .any, .any, .any, .any, .any, .any, .any, .any, .any, .any, .any, .any, .any, .any, .any, .any, .any, .any, .any, .any, .any, .any, .any, .any, .any, .any, .any, .any, .any, .any, .any, .any, .any, .any, .any, .any, .any, .any, .any, .any, .any, .any, .any, .any, .any, .any]) (fun _ (_ : Bool × Bool) => h6)
      (fun k p _ => (p.1 = true ↔ ∀ j, j < k → (minorsL M).getD j 0 > 0) ∧ (p.2 = true ↔ ∀ j, j < k → (minorsL M).getD j 0 ≥ 0)) (true, true) (Nat.zero_le _) ⟨by simp, by simp⟩ (by simp [LeL, Le1]) (fun _ _ h => h) ?_
    rintro k ⟨b1, b2⟩ m - hk hm1 ⟨i1, i2⟩
    simp only at i1 i2
    simp (maxSteps := 2000000) -implicitDefEqProofs (disch := omega) only [xsW, xsC, xsD, xsE, fillA, reduceCtorEq, Nat.reduceAdd, Nat.reduceSub, Nat.reduceLeDiff, Nat.reduceMul, Int.reduceLT, Int.reduceLE, Int.reduceEq, Int.reduceNe, Int.reduceAdd, Int.reduceSub, Int.reduceMul, Int.reduceNeg, Int.reduceToNat,  t5.ln]
    (refine cd_dec (fun c2 => ?_) (fun c2 => ?_) <;> simp (maxSteps := 2000000) -implicitDefEqProofs (disch := omega) only [xsW, xsC, xsD, xsE, fillA, reduceCtorEq, Nat.reduceAdd, Nat.reduceSub, Nat.reduceLeDiff, Nat.reduceMul, Int.reduceLT, Int.reduceLE, Int.reduceEq, Int.reduceNe, Int.reduceAdd, Int.reduceSub, Int.reduceMul, Int.reduceNeg, Int.reduceToNat,  c2])
    · have hk' : k < (minorsL M).length := by omega
      cases b1 <;> cases b2 <;> simp (maxSteps := 2000000) -implicitDefEqProofs (disch := omega) only [xsW, xsC, xsD, xsE, fillA, reduceCtorEq, Nat.reduceAdd, Nat.reduceSub, Nat.reduceLeDiff, Nat.reduceMul, Int.reduceLT, Int.reduceLE, Int.reduceEq, Int.reduceNe, Int.reduceAdd, Int.reduceSub, Int.reduceMul, Int.reduceNeg, Int.reduceToNat,  t5.ia, t5.ld]
      · exact ⟨(false, false), ⟨run_inv i1, run_inv i2⟩, by omega, by omega, (by simp [LeL, Le1])⟩
      · exact ⟨(false, decide ((minorsL M).getD k 0 ≥ 0)), ⟨run_inv i1, run_inv i2⟩, by omega, by omega, (by simp [LeL, Le1])⟩
      · exact ⟨(decide ((minorsL M).getD k 0 > 0), false), ⟨run_inv i1, run_inv i2⟩, by omega, by omega, (by simp [LeL, Le1])⟩
      · exact ⟨(decide ((minorsL M).getD k 0 > 0), decide ((minorsL M).getD k 0 ≥ 0)), ⟨run_inv i1, run_inv i2⟩, by omega, by omega, (by simp [LeL, Le1])⟩
    · have e : k = (minorsL M).length := by omega
      subst e
      have e1 : b1 = decide (KL.getD 0 0 = 1) := by
        rw [hk01 0 (by omega), Bool.eq_iff_iff, i1, decide_eq_true_eq]
        rw [show kindB M ((0 : Nat) : Int) = pB M 1 from rfl]
        by_cases hp : pB M 1 = true
        · rw [if_pos hp]
          refine ⟨fun _ => rfl, fun _ j hj => ?_⟩
          have := (pB_iff 1).1 hp j (by omega)
          rw [minorsL, rowOf_get (by omega)]; omega
        · rw [if_neg hp]
          refine ⟨fun h => absurd ((pB_iff 1).2 fun s hs => ?_) hp, fun h => by omega⟩
          have := h s (by omega)
          rw [minorsL, rowOf_get hs] at this; omega
      have e2 : b2 = decide (KL.getD 1 0 = 1) := by
        rw [hk01 1 (by omega), Bool.eq_iff_iff, i2, decide_eq_true_eq]
        rw [show kindB M ((1 : Nat) : Int) = pB M 0 from rfl]
        by_cases hp : pB M 0 = true
        · rw [if_pos hp]
          refine ⟨fun _ => rfl, fun _ j hj => ?_⟩
          have := (pB_iff 0).1 hp j (by omega)
          rw [minorsL, rowOf_get (by omega)]; omega
        · rw [if_neg hp]
          refine ⟨fun h => absurd ((pB_iff 0).2 fun s hs => ?_) hp, fun h => by omega⟩
          have := h s (by omega)
          rw [minorsL, rowOf_get hs] at this; omega
      subst e1 e2
      simp (maxSteps := 2000000) -implicitDefEqProofs (disch := omega) only [xsW, xsC, xsD, xsE, fillA, reduceCtorEq, Nat.reduceAdd, Nat.reduceSub, Nat.reduceLeDiff, Nat.reduceMul, Int.reduceLT, Int.reduceLE, Int.reduceEq, Int.reduceNe, Int.reduceAdd, Int.reduceSub, Int.reduceMul, Int.reduceNeg, Int.reduceToNat,  t3.ia, t3.ld, t3.ld0]
      have hkh := kinds_have hmn
      obtain ⟨PP, hPP⟩ : ∃ PP : List (List Int), PP = [[0, 1], [3, 0], [3, 2], [3, 4], [5, 0], [5, 8], [6, 7], [6, 1], [8, 7], [10, 4]] := ⟨_, rfl⟩
      have hpl : PP.length = 10 := by rw [hPP]; rfl
      have hpp : ∀ k, k < 10 → ∃ a b : Nat, (PP.getD k []).length = 2 ∧ (PP.getD k []).getD 0 0 = (a : Int) ∧ (PP.getD k []).getD 1 0 = (b : Int) ∧ a < 12 ∧ b < 12 ∧ (kindB M (a : Int) = true → kindB M (b : Int) = true) := by
        intro k hk9
        subst hPP
        obtain ⟨g0, g1, g2, g3, g4, g5, g6, g7, g8, g9⟩ := hkh
        match k, hk9 with
        | 0, _ => exact ⟨0, 1, rfl, rfl, rfl, by omega, by omega, g0⟩
        | 1, _ => exact ⟨3, 0, rfl, rfl, rfl, by omega, by omega, g1⟩
        | 2, _ => exact ⟨3, 2, rfl, rfl, rfl, by omega, by omega, g2⟩
        | 3, _ => exact ⟨3, 4, rfl, rfl, rfl, by omega, by omega, g3⟩
        | 4, _ => exact ⟨5, 0, rfl, rfl, rfl, by omega, by omega, g4⟩
        | 5, _ => exact ⟨5, 8, rfl, rfl, rfl, by omega, by omega, g5⟩
        | 6, _ => exact ⟨6, 7, rfl, rfl, rfl, by omega, by omega, g6⟩
        | 7, _ => exact ⟨6, 1, rfl, rfl, rfl, by omega, by omega, g7⟩
        | 8, _ => exact ⟨8, 7, rfl, rfl, rfl, by omega, by omega, g8⟩
        | 9, _ => exact ⟨10, 4, rfl, rfl, rfl, by omega, by omega, g9⟩
      refine X_heap (fun h' => (∃ VS, Rows false m (m + 11) h' (.sl (m + 1 + 1 + 1 + 1 + 1 + 1 + 1 + 1 + 1 + 1) 0 10 10) VS PP) ∧ ∀ j, j < m → h' j = h6 j) ⟨⟨_, Sl.of_sl (upd_same _ _ _) rfl (Nat.le_refl _) (by omega) (by omega), ⟨by rw [hpl]; rfl, fun k hk9 => ?_, fun h => by cases h⟩, fun h => by cases h⟩, fun j hj => by simp (disch := omega) only [upd_other]⟩ fun hP ⟨⟨VS, sP⟩, oP⟩ => ?_
      · rw [hpl] at hk9
        subst hPP
        match k, hk9 with
        | 0, _ | 1, _ | 2, _ | 3, _ | 4, _ | 5, _ | 6, _ | 7, _ | 8, _ | 9, _ =>
          refine Sl.of_sl (ty := 2) (op := 0) (by simp (disch := omega) only [upd_other, upd_same, List.getD_cons_zero, List.getD_cons_succ]; rfl) rfl (Nat.le_refl _) (by omega) (by omega)
      have t3P := t3.keep (h' := hP) fun i _ hi' => oP i (by omega)
      have scP := sc6.keep (h' := hP) fun i _ hi' => oP i (by omega)
      have sMP := sM6.keep (h' := hP) fun i _ hi' => oP i (by omega)
      clear t3 t5 sc6 sM6 oP
      refine loop_for 10 0 (fun k (_ : Unit) => [v, .any, .bool false, v2, v3, .any, .any, .any, .any, .any, .any, .any, .any, .any, .any, .sl (m + 1 + 1 + 1 + 1 + 1 + 1 + 1 + 1 + 1 + 1) 0 10 10, .int .i64 k, .any, .any, .any, .any, .any, .any, .any, .any, .any, .any, .any, .any, .any, .any, .any, .any, .any, .any, .any, .any, .any, .any, .any, .any, .any, .any, .any, .any, .any, .any, .any, .any, .any, .any, .any, .any, .any, .any, .any, .any, .any, .any, .any, .any, .any, .any, .any, .any, .any, .any, .any, .any, .any, .any, .any, .any, .any, .any, .any, .any, .any, .any, .any, .any, .any, .any, .any, .any, .any, .any, .any, .any, .any, .any, .any, .any, .any, .any, .any, .any, .any, .any, .any, .any, .any, .any, .any, .any, .any, .any, .any, .any, .any, .any, .any, .any, .any, .any, .any, .any, .any, .any, .any, .any, .any, .any, .any, .any, .any, .any, .any, .any, .any, .any, .any, .any, .any, .any, .any, .any, .any, .any, .any, .any, .any, .any, .any, .any, .any, .any, .any, .any, .any, .any, .any, .any, .any, .any, .any, .any, .any, .any, .any, .any, .any, .any, .any, .any, .any, .any, .any, .any, .any, .any, .any, .any, .any, .any, .any, .any, .any, .any, .any, .any, .any, .any, .any, .any, .any, .any, .any, .any, .any, .any, .any, .any, .any, .any, .any, .any, .any, .any, .any, .any, .any, .any, .any, .any, .any, .any, .any, .any, .any, .any, .any, .any, .any, .any, .any, .any, .any, .any, .any, .any, .any, .any, .any, .any, .any, .any, .any, .any, .any, .any, .any, .any, .any, .any, .any, .any, .any, .any, .any, .any, .any, .any, .any, .any, .any, .any, .any, .any, .any, .any, .any, .any, .any, .any, .any, .any, .any, .any, .any, .any, .any, .any, .any, .any, .any, .any, .any, .any, .any, .any, .any, .any, .any, .any, .any, .any, .any, .any, .any, .any, .any, .any, .any, .any, .any, .any, .any, .any, .any, .any, .any, .any, .any, .any, .any, .any, .any, .any, .any, .any, .any, .any, .any, .any, .any, .any, .any, .any, .any, .any, .any, .any, .any, .any]) (fun _ _ => hP) (fun _ _ _ => True) () (Nat.zero_le _) trivial (by simp [LeL, Le1]) (fun _ _ h => h) ?_
      rintro k - m2 - hk hm2 -
      simp (maxSteps := 2000000) -implicitDefEqProofs (disch := omega) only [xsW, xsC, xsD, xsE, fillA, reduceCtorEq, Nat.reduceAdd, Nat.reduceSub, Nat.reduceLeDiff, Nat.reduceMul, Int.reduceLT, Int.reduceLE, Int.reduceEq, Int.reduceNe, Int.reduceAdd, Int.reduceSub, Int.reduceMul, Int.reduceNeg, Int.reduceToNat,  sP.ln]
      (refine cd_dec (fun c3 => ?_) (fun c3 => ?_) <;> simp (maxSteps := 2000000) -implicitDefEqProofs (disch := omega) only [xsW, xsC, xsD, xsE, fillA, reduceCtorEq, Nat.reduceAdd, Nat.reduceSub, Nat.reduceLeDiff, Nat.reduceMul, Int.reduceLT, Int.reduceLE, Int.reduceEq, Int.reduceNe, Int.reduceAdd, Int.reduceSub, Int.reduceMul, Int.reduceNeg, Int.reduceToNat,  c3])
      · obtain ⟨a, b, hprl, pr0, pr1, ha, hb9, hi9⟩ := hpp k (by omega)
        have r := sP.row k (by omega)
        have hld := fun (K : AV → AH → Nat → Prop) (h' : AH) (n : Nat) => sP.ld (k := k) (by omega) K h' n
        simp only [bid, boff, Nat.zero_add] at hld
        have q1 := hk01 a ha
        have q2 := hk01 b hb9
        by_cases ka : kindB M (a : Int) = true
        · rw [if_pos ka] at q1
          rw [if_pos (hi9 ka)] at q2
          simp (maxSteps := 2000000) -implicitDefEqProofs (disch := omega) only [xsW, xsC, xsD, xsE, fillA, reduceCtorEq, Nat.reduceAdd, Nat.reduceSub, Nat.reduceLeDiff, Nat.reduceMul, Int.reduceLT, Int.reduceLE, Int.reduceEq, Int.reduceNe, Int.reduceAdd, Int.reduceSub, Int.reduceMul, Int.reduceNeg, Int.reduceToNat,  hld, r.ia, r.ld, r.ld0, pr0, pr1, t3P.ia, t3P.ld]
          exact ⟨(), by omega, by omega, (by simp [LeL, Le1])⟩
        · rw [if_neg ka] at q1
          simp (maxSteps := 2000000) -implicitDefEqProofs (disch := omega) only [xsW, xsC, xsD, xsE, fillA, reduceCtorEq, Nat.reduceAdd, Nat.reduceSub, Nat.reduceLeDiff, Nat.reduceMul, Int.reduceLT, Int.reduceLE, Int.reduceEq, Int.reduceNe, Int.reduceAdd, Int.reduceSub, Int.reduceMul, Int.reduceNeg, Int.reduceToNat,  hld, r.ia, r.ld, r.ld0, pr0, pr1, t3P.ia, t3P.ld]
          exact ⟨(), by omega, by omega, (by simp [LeL, Le1])⟩
      · refine roll_use scP hb' hc 43 (by omega) fun hR nR hnR hsR rR => ?_
        have sMR := sMP.keep (h' := hR) fun i _ hi' => hsR i (by omega)
        have t3R := t3P.keep (h' := hR) fun i _ hi' => hsR i (by omega)
        have scR := scP.keep (h' := hR) fun i _ hi' => hsR i (by omega)
        clear sP scP sMP t3P
        simp (maxSteps := 2000000) -implicitDefEqProofs (disch := omega) only [xsW, xsC, xsD, xsE, fillA, reduceCtorEq, Nat.reduceAdd, Nat.reduceSub, Nat.reduceLeDiff, Nat.reduceMul, Int.reduceLT, Int.reduceLE, Int.reduceEq, Int.reduceNe, Int.reduceAdd, Int.reduceSub, Int.reduceMul, Int.reduceNeg, Int.reduceToNat]
        refine loop_for 6 0 (fun k p => [v, .any, .bool false, v2, v3, .any, .any, .any, .any, .any, .any, .any, .any, .any, .any, .any, .any, .ptr m2 0, .int .i64 k, .any, .any, .any, .any, .any, .any, .any, .any, .any, .any, .any, .any, .any, .any, .any, .any, .any, .any, .any, .any, .any, .any, .any, .any, .any, .any, .any, .any, .any, .any, .any, .any, .any, .any, .any, .any, .any, .any, .any, .any, .any, .any, .any, .any, .any, .any, .any, .any, .any, .any, .any, .any, .any, .any, .any, .any, .any, .any, .any, .any, .any, .any, .any, .any, .any, .any, .any, .any, .any, .any, .any, .any, .any, .any, .any, .any, .any, .any, .any, .any, .any, .any, .any, .any, .any, .any, .any, .any, .any, .any, .any, .any, .any, .any, .any, .any, .any, .any, .any, .any, .any, .any, .any, .any, .any, .any, .any, .any, .any, .any, .any, .any, .any, .any, .any, .any, .any, .any, .any, .any, .any, .any, .any, .any, .any, .any, .any, .any, .any, .any, .any, .any, .any, .any, .any, .any, .any, .any, .any, .any, .any, .any, .any, .any, .any, .any, .any, .any, .any, .any, .any, .any, .any, .any, .any, .any, .any, .any, .any, .any, .any, .any, .any, .any, .any, .any, .any, .any, .any, .any, .any, .any, .any, .any, .any, .any, .any, .any, .any, .any, .any, .any, .any, .any, .any, .any, .any, .any, .any, .any, .any, .any, .any, .any, .any, .any, .any, .any, .any, .any, .any, .any, .any, .any, .any, .any, .any, .any, .any, .any, .any, .any, .any, .any, .any, .any, .any, .any, .any, .any, .any, .any, .any, .any, .any, .any, .any, .any, .any, .any, .any, .any, .any, .any, .any, .any, .any, .any, .any, .any, .any, .any, .any, .any, .any, .any, .any, .any, .any, .any, .any, .any, .any, .any, .any, .any, .any, .any, .any, .any, .any, .any, .any, .any, .any, .any, .any, .any, .any, .any, .any, .any, .any, .any, .any, .any, .any, .any, .any, .any, .any, .any, .any, .any, .any, .any, .any, .any, .any, .any, .any, .any, .any, .any, .any, .any]) (fun _ (p : AH) => p)
          (fun k p _ => Rows true nC n2 p v2 vs2 M ∧ Ints true n2 n3 p v3 KL ∧ Sl false 0 hi p 1 v (bytesA code) ∧ Dice hi m2 p) hR (Nat.zero_le _) ⟨sMR, t3R, scR, rR⟩ (by simp [LeL, Le1]) (fun _ _ h => h) ?_
        rintro tt hp m3 - htt hm3 ⟨sp, tp, scp, rp⟩
        clear sMR t3R scR rR
        simp (maxSteps := 2000000) -implicitDefEqProofs (disch := omega) only [xsW, xsC, xsD, xsE, fillA, reduceCtorEq, Nat.reduceAdd, Nat.reduceSub, Nat.reduceLeDiff, Nat.reduceMul, Int.reduceLT, Int.reduceLE, Int.reduceEq, Int.reduceNe, Int.reduceAdd, Int.reduceSub, Int.reduceMul, Int.reduceNeg, Int.reduceToNat]
        (refine cd_dec (fun c4 => ?_) (fun c4 => ?_) <;> simp (maxSteps := 2000000) -implicitDefEqProofs (disch := omega) only [xsW, xsC, xsD, xsE, fillA, reduceCtorEq, Nat.reduceAdd, Nat.reduceSub, Nat.reduceLeDiff, Nat.reduceMul, Int.reduceLT, Int.reduceLE, Int.reduceEq, Int.reduceNe, Int.reduceAdd, Int.reduceSub, Int.reduceMul, Int.reduceNeg, Int.reduceToNat,  c4])
        · refine loop_for M.length 0 (fun k p => [v, .any, .bool false, v2, v3, .any, .any, .any, .any, .any, .any, .any, .any, .any, .any, .any, .any, .ptr m2 0, .int .i64 tt, p.1, p.2.2.1, .bool p.2.2.2.1, .int .i64 k, .any, .any, .any, .any, .any, .any, .any, .any, .any, .any, .any, .any, .any, .any, .any, .any, .any, .any, .any, .any, .any, .any, .any, .any, .any, .any, .any, .any, .any, .any, .any, .any, .any, .any, .any, .any, .any, .any, .any, .any, .any, .any, .any, .any, .any, .any, .any, .any, .any, .any, .any, .any, .any, .any, .any, .any, .any, .any, .any, .any, .any, .any, .any, .any, .any, .any, .any, .any, .any, .any, .any, .any, .any, .any, .any, .any, .any, .any, .any, .any, .any, .any, .any, .any, .any, .any, .any, .any, .any, .any, .any, .any, .any, .any, .any, .any, .any, .any, .any, .any, .any, .any, .any, .any, .any, .any, .any, .any, .any, .any, .any, .any, .any, .any, .any, .any, .any, .any, .any, .any, .any, .any, .any, .any, .any, .any, .any, .any, .any, .any, .any, .any, .any, .any, .any, .any, .any, .any, .any, .any, .any, .any, .any, .any, .any, .any, .any, .any, .any, .any, .any, .any, .any, .any, .any, .any, .any, .any, .any, .any, .any, .any, .any, .any, .any, .any, .any, .any, .any, .any, .any, .any, .any, .any, .any, .any, .any, .any, .any, .any, .any, .any, .any, .any, .any, .any, .any, .any, .any, .any, .any, .any, .any, .any, .any, .any, .any, .any, .any, .any, .any, .any, .any, .any, .any, .any, .any, .any, .any, .any, .any, .any, .any, .any, .any, .any, .any, .any, .any, .any, .any, .any, .any, .any, .any, .any, .any, .any, .any, .any, .any, .any, .any, .any, .any, .any, .any, .any, .any, .any, .any, .any, .any, .any, .any, .any, .any, .any, .any, .any, .any, .any, .any, .any, .any, .any, .any, .any, .any, .any, .any, .any, .any, .any, .any, .any, .any, .any, .any, .any, .any, .any, .any, .any, .any, .any, .any, .any, .any, .any, .any, .any, .any, .any, .any, .any, .any, .any, .any, .any, .any, .any]) (fun _ (p : AV × List Int × AV × Bool × AH) => p.2.2.2.2)
            (fun k p m => Acc m3 m p.2.2.2.2 2 1 p.1 (ints p.2.1) ∧ Acc m3 m p.2.2.2.2 2 1 p.2.2.1 (ints (absL p.2.1)) ∧ (isSl p.1 = true → isSl p.2.2.1 = true → bid p.2.2.1 ≠ bid p.1) ∧ p.2.1.length = k ∧
              (∀ x ∈ p.2.1, -4 ≤ x ∧ x ≤ 4) ∧ (p.2.2.2.1 = true ↔ ∀ x ∈ p.2.1, x = 0) ∧ Dice hi m2 p.2.2.2.2 ∧ ∀ j, j < m3 → j ≠ m2 → p.2.2.2.2 j = hp j)
            (.sl m3 0 0 0, [], .sl (m3 + 1) 0 0 0, true, upd (upd hp m3 (some ⟨2, [], true, 0⟩)) (m3 + 1) (some ⟨2, [], true, 0⟩)) (Nat.zero_le _)
            ⟨Acc.empty (b := ⟨2, [], true, 0⟩) (show upd (upd hp m3 _) (m3 + 1) _ m3 = _ by rw [upd_other (by omega), upd_same]) rfl (Nat.le_refl _) (by omega), Acc.empty (upd_same _ _ _) rfl (by omega) (by omega), fun _ _ => by simp only [bid]; omega, rfl, by simp, by simp, rp.keep (show upd (upd hp m3 _) (m3 + 1) _ m2 = _ by rw [upd_other (by omega), upd_other (by omega)]) fun j hj => (show upd (upd hp m3 _) (m3 + 1) _ j = _ by rw [upd_other (by omega), upd_other (by omega)]), fun j hj _ => (show upd (upd hp m3 _) (m3 + 1) _ j = _ by rw [upd_other (by omega), upd_other (by omega)])⟩ (by simp [LeL, Le1]) (fun _ _ h => h) ?_
          rintro k ⟨xv, xl, yv, z, hq⟩ mq - hk hmq ⟨ax, ay, axy, lx, lxb, hz, rq, oq⟩
          simp only at ax ay axy lx lxb hz rq oq
          have lyl := absL_len xl
          simp (maxSteps := 2000000) -implicitDefEqProofs (disch := omega) only [xsW, xsC, xsD, xsE, fillA, reduceCtorEq, Nat.reduceAdd, Nat.reduceSub, Nat.reduceLeDiff, Nat.reduceMul, Int.reduceLT, Int.reduceLE, Int.reduceEq, Int.reduceNe, Int.reduceAdd, Int.reduceSub, Int.reduceMul, Int.reduceNeg, Int.reduceToNat,  sp.ln]
          (refine cd_dec (fun c5 => ?_) (fun c5 => ?_) <;> simp (maxSteps := 2000000) -implicitDefEqProofs (disch := omega) only [xsW, xsC, xsD, xsE, fillA, reduceCtorEq, Nat.reduceAdd, Nat.reduceSub, Nat.reduceLeDiff, Nat.reduceMul, Int.reduceLT, Int.reduceLE, Int.reduceEq, Int.reduceNe, Int.reduceAdd, Int.reduceSub, Int.reduceMul, Int.reduceNeg, Int.reduceToNat,  c5])
          · refine mq_use (laws_below rq (by omega) 9 mq (by omega)) (fun i a c => .inl (by omega)) fun x8 h8 n8 hn8 ⟨en, ⟨y8, hy, y0, y1, _⟩, r8, sm8⟩ => ?_
            subst en; subst hy
            have y2 := y1 (by omega)
            have ax8 := ax.keep (h' := h8) fun j a1 a2 => sm8 j (by omega)
            have ay8 := ay.keep (h' := h8) fun j a1 a2 => sm8 j (by omega)
            simp (maxSteps := 2000000) -implicitDefEqProofs (disch := omega) only [xsW, xsC, xsD, xsE, fillA, reduceCtorEq, Nat.reduceAdd, Nat.reduceSub, Nat.reduceLeDiff, Nat.reduceMul, Int.reduceLT, Int.reduceLE, Int.reduceEq, Int.reduceNe, Int.reduceAdd, Int.reduceSub, Int.reduceMul, Int.reduceNeg, Int.reduceToNat]
            refine app_int2 (y := y8 - 4) ((ax8.keep fun j a1 a2 => upd_other (by omega)).wide (Nat.le_refl _) (show n8 ≤ n8 + 1 by omega)) ((ay8.keep fun j a1 a2 => upd_other (by omega)).wide (Nat.le_refl _) (show n8 ≤ n8 + 1 by omega)) axy (by omega) (by omega) ⟨rfl, _, upd_same _ _ _, by simp, by simp [cutA]⟩ (by omega) fun v9 h9 n9 k1 kx ky kxy ko => ?_
            simp (maxSteps := 2000000) -implicitDefEqProofs (disch := omega) only [xsW, xsC, xsD, xsE, fillA, reduceCtorEq, Nat.reduceAdd, Nat.reduceSub, Nat.reduceLeDiff, Nat.reduceMul, Int.reduceLT, Int.reduceLE, Int.reduceEq, Int.reduceNe, Int.reduceAdd, Int.reduceSub, Int.reduceMul, Int.reduceNeg, Int.reduceToNat]
            refine app_int2 (y := max (y8 - 4) (-(y8 - 4))) ((ky.keep fun j a1 a2 => upd_other (by omega)).wide (Nat.le_refl _) (show n9 ≤ n9 + 1 by omega)) ((kx.keep fun j a1 a2 => upd_other (by omega)).wide (Nat.le_refl _) (show n9 ≤ n9 + 1 by omega)) (fun a b e => kxy b a e.symm) (by omega) (by omega) ⟨rfl, _, upd_same _ _ _, by simp, by simp [cutA]⟩ (by omega) fun va ha na ka kya kxa kxya koa => ?_
            rw [← absL_snoc] at kya
            have o2 : ∀ j, j < m3 → ha j = h8 j := fun j hj => by rw [koa j hj, upd_other (by omega), ko j hj, upd_other (by omega)]
            have r9 : Dice hi m2 ha := r8.keep (o2 m2 (by omega)) fun j hj => o2 j (by omega)
            have o9 : ∀ j, j < m3 → j ≠ m2 → ha j = hp j := fun j hj hne => by rw [o2 j hj, sm8 j hne, oq j hj hne]
            have b9 : ∀ x ∈ xl ++ [y8 - 4], -4 ≤ x ∧ x ≤ 4 := fun x hx => by
              rcases List.mem_append.1 hx with hx | hx
              · exact lxb x hx
              · simp only [List.mem_cons, List.not_mem_nil, or_false] at hx; omega
            cases z <;> simp (maxSteps := 2000000) -implicitDefEqProofs (disch := omega) only [xsW, xsC, xsD, xsE, fillA, reduceCtorEq, Nat.reduceAdd, Nat.reduceSub, Nat.reduceLeDiff, Nat.reduceMul, Int.reduceLT, Int.reduceLE, Int.reduceEq, Int.reduceNe, Int.reduceAdd, Int.reduceSub, Int.reduceMul, Int.reduceNeg, Int.reduceToNat]
            · exact ⟨(v9, xl ++ [y8 - 4], va, false, ha), ⟨kxa, kya, fun a b => (kxya b a).symm, by simp [lx], b9, zero_inv hz, r9, o9⟩, by omega, by omega, (by simp [LeL, Le1]), fun _ _ h => h⟩
            · exact ⟨(v9, xl ++ [y8 - 4], va, decide (y8 - 4 = 0), ha), ⟨kxa, kya, fun a b => (kxya b a).symm, by simp [lx], b9, zero_inv hz, r9, o9⟩, by omega, by omega, (by simp [LeL, Le1]), fun _ _ h => h⟩
          · have e : k = M.length := by omega
            subst e
            have smq := sp.keep (h' := hq) fun j a1 a2 => oq j (by omega) (by omega)
            have tmq := tp.keep (h' := hq) fun j a1 a2 => oq j (by omega) (by omega)
            have scq := scp.keep (h' := hq) fun j a1 a2 => oq j (by omega) (by omega)
            have fx : formAt M xl = .tup [.int .i64 (formOf M xl), .int .i64 0] := formAt_ok hm lx lxb
            have fy : formAt M (absL xl) = .tup [.int .i64 (formOf M (absL xl)), .int .i64 0] := formAt_ok hm (by omega) (absL_bnd lxb)
            obtain ⟨f6, f7, f58⟩ := form_said hmn lx (by omega) (l' := absL xl) fun i hi9 => absL_get (by omega)
            have q1 := impl_FormAt smq ax.sl fM1 fM2 (by omega) mq (by omega) (by omega)
            have q2 := fun nn (hh : mq ≤ nn) => impl_FormAt smq ay.sl fM1 fM2 (by omega) nn (by omega) (by omega)
            rw [fx] at q1
            simp only [fy] at q2
            refine q_use q1 fun na hna => ?_
            simp (maxSteps := 2000000) -implicitDefEqProofs (disch := omega) only [xsW, xsC, xsD, xsE, fillA, reduceCtorEq, Nat.reduceAdd, Nat.reduceSub, Nat.reduceLeDiff, Nat.reduceMul, Int.reduceLT, Int.reduceLE, Int.reduceEq, Int.reduceNe, Int.reduceAdd, Int.reduceSub, Int.reduceMul, Int.reduceNeg, Int.reduceToNat]
            refine q_use (q2 na (by omega)) fun nb hnb => ?_
            have v6 : (KL.getD 6 0 = 1 ∧ 0 ≤ formOf M xl) ∨ KL.getD 6 0 = 0 := kind_or (hk01 6 (by omega)) f6
            have v7 : (KL.getD 7 0 = 1 ∧ 0 ≤ formOf M (absL xl)) ∨ KL.getD 7 0 = 0 := kind_or (hk01 7 (by omega)) f7
            have v58 : z = true ∨ (z = false ∧ ((KL.getD 5 0 = 1 ∧ 0 < formOf M xl) ∨ KL.getD 5 0 = 0) ∧ ((KL.getD 8 0 = 1 ∧ 0 < formOf M (absL xl)) ∨ KL.getD 8 0 = 0)) := by
              cases z with
              | true => exact .inl rfl
              | false =>
                have hne : ∃ i, i < M.length ∧ xl.getD i 0 ≠ 0 := Classical.byContradiction fun hno => by
                  have : ∀ x ∈ xl, x = 0 := fun x hx => by
                    obtain ⟨j, hj, e⟩ := mem_iff_getD.1 hx
                    exact Classical.byContradiction fun e0 => hno ⟨j, by omega, by rw [e]; exact e0⟩
                  have := hz.2 this
                  cases this
                exact .inr ⟨rfl, kind_or (hk01 5 (by omega)) (f58 hne).1, kind_or (hk01 8 (by omega)) (f58 hne).2⟩
            have fin : ∀ nn, mq ≤ nn → Dice hi m2 hq := fun _ _ => rq
            clear f6 f7 f58 fx fy q1 q2 ax ay axy sp tp scp rp oq hk01
            generalize formOf M xl = A at *
            generalize formOf M (absL xl) = B at *
            rcases v58 with rfl | ⟨rfl, v5, v8⟩
            · rcases v6 with ⟨v6, w6⟩ | v6 <;> rcases v7 with ⟨v7, w7⟩ | v7 <;> simp (maxSteps := 2000000) -implicitDefEqProofs (disch := omega) only [xsW, xsC, xsD, xsE, fillA, reduceCtorEq, Nat.reduceAdd, Nat.reduceSub, Nat.reduceLeDiff, Nat.reduceMul, Int.reduceLT, Int.reduceLE, Int.reduceEq, Int.reduceNe, Int.reduceAdd, Int.reduceSub, Int.reduceMul, Int.reduceNeg, Int.reduceToNat,  tmq.ia, tmq.ld]
              all_goals exact ⟨hq, ⟨smq, tmq, scq, rq⟩, by omega, by omega, (by simp [LeL, Le1]), fun _ _ h => h⟩
            · rcases v6 with ⟨v6, w6⟩ | v6 <;> rcases v7 with ⟨v7, w7⟩ | v7 <;> rcases v5 with ⟨v5, w5⟩ | v5 <;> rcases v8 with ⟨v8, w8⟩ | v8 <;> simp (maxSteps := 2000000) -implicitDefEqProofs (disch := omega) only [xsW, xsC, xsD, xsE, fillA, reduceCtorEq, Nat.reduceAdd, Nat.reduceSub, Nat.reduceLeDiff, Nat.reduceMul, Int.reduceLT, Int.reduceLE, Int.reduceEq, Int.reduceNe, Int.reduceAdd, Int.reduceSub, Int.reduceMul, Int.reduceNeg, Int.reduceToNat,  tmq.ia, tmq.ld]
              all_goals exact ⟨hq, ⟨smq, tmq, scq, rq⟩, by omega, by omega, (by simp [LeL, Le1]), fun _ _ h => h⟩
        · have hnC : hi ≤ m3 := by omega
          have sc := scp
          refine fq_use (spec_DrawIsOfKind sc hb' hc _ hnC) fun x1 g1 p1 hp1 hg1 ⟨w1, ws1, K1, k1, ee1, sK, fK⟩ => ?_
          subst ee1
          obtain ⟨fK1, fK2⟩ := fK.big
          have sc1 := sc.keep (h' := g1) fun i _ hi' => hg1 i (by omega)
          simp (maxSteps := 2000000) -implicitDefEqProofs (disch := omega) only [xsW, xsC, xsD, xsE, fillA, reduceCtorEq, Nat.reduceAdd, Nat.reduceSub, Nat.reduceLeDiff, Nat.reduceMul, Int.reduceLT, Int.reduceLE, Int.reduceEq, Int.reduceNe, Int.reduceAdd, Int.reduceSub, Int.reduceMul, Int.reduceNeg, Int.reduceToNat]
          refine q_use (impl_IsOfKind sK fK1 fK2 k1 p1 (Nat.le_refl _)) fun p2 hp2 => ?_
          simp (maxSteps := 2000000) -implicitDefEqProofs (disch := omega) only [xsW, xsC, xsD, xsE, fillA, reduceCtorEq, Nat.reduceAdd, Nat.reduceSub, Nat.reduceLeDiff, Nat.reduceMul, Int.reduceLT, Int.reduceLE, Int.reduceEq, Int.reduceNe, Int.reduceAdd, Int.reduceSub, Int.reduceMul, Int.reduceNeg, Int.reduceToNat]
          refine q_use (spec_IsOfKind sK fK1 fK2 k1 p2 (by omega)) fun p3 hp3 => ?_
          simp (maxSteps := 2000000) -implicitDefEqProofs (disch := omega) only [xsW, xsC, xsD, xsE, fillA, reduceCtorEq, Nat.reduceAdd, Nat.reduceSub, Nat.reduceLeDiff, Nat.reduceMul, Int.reduceLT, Int.reduceLE, Int.reduceEq, Int.reduceNe, Int.reduceAdd, Int.reduceSub, Int.reduceMul, Int.reduceNeg, Int.reduceToNat]
          refine fq_use (spec_DrawFormAt sc1 hb' hc p3 (by omega)) fun x4 g4 p4 hp4 hg4 ⟨w4, ws4, K4, u4, l4, ee4, sK4, fK4, sL4, bl4⟩ => ?_
          subst ee4
          obtain ⟨fa, fc, hfa⟩ := formAt_tup K4 l4
          have q5 := impl_FormAt sK4 sL4 fK4.big.1 fK4.big.2 (by omega) p4 (Nat.le_refl _) (Nat.le_refl _)
          rw [hfa] at q5
          simp (maxSteps := 2000000) -implicitDefEqProofs (disch := omega) only [xsW, xsC, xsD, xsE, fillA, reduceCtorEq, Nat.reduceAdd, Nat.reduceSub, Nat.reduceLeDiff, Nat.reduceMul, Int.reduceLT, Int.reduceLE, Int.reduceEq, Int.reduceNe, Int.reduceAdd, Int.reduceSub, Int.reduceMul, Int.reduceNeg, Int.reduceToNat]
          refine q_use q5 fun p5 hp5 => ?_
          have q6 := spec_FormAt sK4 sL4 fK4.big.1 fK4.big.2 (by omega) p5 (by omega) (by omega)
          rw [hfa] at q6
          simp (maxSteps := 2000000) -implicitDefEqProofs (disch := omega) only [xsW, xsC, xsD, xsE, fillA, reduceCtorEq, Nat.reduceAdd, Nat.reduceSub, Nat.reduceLeDiff, Nat.reduceMul, Int.reduceLT, Int.reduceLE, Int.reduceEq, Int.reduceNe, Int.reduceAdd, Int.reduceSub, Int.reduceMul, Int.reduceNeg, Int.reduceToNat]
          refine q_use q6 fun p6 hp6 => ?_
          simp (maxSteps := 2000000) -implicitDefEqProofs (disch := omega) only [xsW, xsC, xsD, xsE, fillA, reduceCtorEq, Nat.reduceAdd, Nat.reduceSub, Nat.reduceLeDiff, Nat.reduceMul, Int.reduceLT, Int.reduceLE, Int.reduceEq, Int.reduceNe, Int.reduceAdd, Int.reduceSub, Int.reduceMul, Int.reduceNeg, Int.reduceToNat]
  · have hnC : hi ≤ n10 := by omega
    have sc := sc6
    refine fq_use (spec_DrawIsOfKind sc hb' hc _ hnC) fun x1 g1 p1 hp1 hg1 ⟨w1, ws1, K1, k1, ee1, sK, fK⟩ => ?_
    subst ee1
    obtain ⟨fK1, fK2⟩ := fK.big
    have sc1 := sc.keep (h' := g1) fun i _ hi' => hg1 i (by omega)
    simp (maxSteps := 2000000) -implicitDefEqProofs (disch := omega) only [xsW, xsC, xsD, xsE, fillA, reduceCtorEq, Nat.reduceAdd, Nat.reduceSub, Nat.reduceLeDiff, Nat.reduceMul, Int.reduceLT, Int.reduceLE, Int.reduceEq, Int.reduceNe, Int.reduceAdd, Int.reduceSub, Int.reduceMul, Int.reduceNeg, Int.reduceToNat]
    refine q_use (impl_IsOfKind sK fK1 fK2 k1 p1 (Nat.le_refl _)) fun p2 hp2 => ?_
    simp (maxSteps := 2000000) -implicitDefEqProofs (disch := omega) only [xsW, xsC, xsD, xsE, fillA, reduceCtorEq, Nat.reduceAdd, Nat.reduceSub, Nat.reduceLeDiff, Nat.reduceMul, Int.reduceLT, Int.reduceLE, Int.reduceEq, Int.reduceNe, Int.reduceAdd, Int.reduceSub, Int.reduceMul, Int.reduceNeg, Int.reduceToNat]
    refine q_use (spec_IsOfKind sK fK1 fK2 k1 p2 (by omega)) fun p3 hp3 => ?_
    simp (maxSteps := 2000000) -implicitDefEqProofs (disch := omega) only [xsW, xsC, xsD, xsE, fillA, reduceCtorEq, Nat.reduceAdd, Nat.reduceSub, Nat.reduceLeDiff, Nat.reduceMul, Int.reduceLT, Int.reduceLE, Int.reduceEq, Int.reduceNe, Int.reduceAdd, Int.reduceSub, Int.reduceMul, Int.reduceNeg, Int.reduceToNat]
    refine fq_use (spec_DrawFormAt sc1 hb' hc p3 (by omega)) fun x4 g4 p4 hp4 hg4 ⟨w4, ws4, K4, u4, l4, ee4, sK4, fK4, sL4, bl4⟩ => ?_
    subst ee4
    obtain ⟨fa, fc, hfa⟩ := formAt_tup K4 l4
    have q5 := impl_FormAt sK4 sL4 fK4.big.1 fK4.big.2 (by omega) p4 (Nat.le_refl _) (Nat.le_refl _)
    rw [hfa] at q5
    simp (maxSteps := 2000000) -implicitDefEqProofs (disch := omega) only [xsW, xsC, xsD, xsE, fillA, reduceCtorEq, Nat.reduceAdd, Nat.reduceSub, Nat.reduceLeDiff, Nat.reduceMul, Int.reduceLT, Int.reduceLE, Int.reduceEq, Int.reduceNe, Int.reduceAdd, Int.reduceSub, Int.reduceMul, Int.reduceNeg, Int.reduceToNat]
    refine q_use q5 fun p5 hp5 => ?_
    have q6 := spec_FormAt sK4 sL4 fK4.big.1 fK4.big.2 (by omega) p5 (by omega) (by omega)
    rw [hfa] at q6
    simp (maxSteps := 2000000) -implicitDefEqProofs (disch := omega) only [xsW, xsC, xsD, xsE, fillA, reduceCtorEq, Nat.reduceAdd, Nat.reduceSub, Nat.reduceLeDiff, Nat.reduceMul, Int.reduceLT, Int.reduceLE, Int.reduceEq, Int.reduceNe, Int.reduceAdd, Int.reduceSub, Int.reduceMul, Int.reduceNeg, Int.reduceToNat]
    refine q_use q6 fun p6 hp6 => ?_
    simp (maxSteps := 2000000) -implicitDefEqProofs (disch := omega) only [xsW, xsC, xsD, xsE, fillA, reduceCtorEq, Nat.reduceAdd, Nat.reduceSub, Nat.reduceLeDiff, Nat.reduceMul, Int.reduceLT, Int.reduceLE, Int.reduceEq, Int.reduceNe, Int.reduceAdd, Int.reduceSub, Int.reduceMul, Int.reduceNeg, Int.reduceToNat]
end Go.Proofs.Ytkpibnhddhdooaa.L
