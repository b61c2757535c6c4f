/-
  MendTrouble returns true at all typed arguments.
-/
import Derived.Test.YtkjnedjjdmfpbaaGreatDoorA5
import Derived.Test.YtkjnedjjdmfpbaaGreatDoorProg
import Derived.KernelRfl
import Derived.Test.YtkjnedjjdmfpbaaGreatDoorC1
import Derived.Test.YtkjnedjjdmfpbaaGreatDoorC2
import Derived.Test.YtkjnedjjdmfpbaaGreatDoorC3
import Derived.Test.YtkjnedjjdmfpbaaGreatDoorL6
import Derived.Test.YtkjnedjjdmfpbaaGreatDoorQ5
set_option linter.unusedVariables false
set_option linter.unusedSimpArgs false
set_option linter.unusedSectionVars false
namespace Go.Vi
open Go.Proofs
set_option maxRecDepth 100000
/-- palantype/palantypelaw04.MendTrouble, part 2 -/
def v4_2 : Code :=
  (.seq (.seq (.region [⟨some 185, .mv (.t 2), none⟩, ⟨some 186, .len (.t 185), none⟩, ⟨some 187, .call 1 28 [.t 186, .con (.int .i64 1), .con (.int .i64 8)], none⟩, ⟨some 188, .not (.t 187), none⟩, ⟨some 189, .mv (.t 188), none⟩, ⟨some 190, .mv (.t 3), some (189, false)⟩, ⟨some 191, .len (.t 190), some (189, false)⟩, ⟨some 192, .call 1 28 [.t 191, .con (.int .i64 1), .con (.int .i64 8)], some (189, false)⟩, ⟨some 193, .not (.t 192), some (189, false)⟩, ⟨some 194, .pick (.t 189) (.con (.bool true)) (.t 193), none⟩] [1, 2, 3, 5, 11, 194])
  (.cond (.t 194) (.seq (.region [⟨some 195, .call 1 17 [], none⟩, ⟨some 10, .mv (.t 195), none⟩] [10])
   .ret) .skip))
  (.seq (.region [⟨some 24, .alloc [.nil 58 2, .d (.int .i64 0), .d (.int .i64 0)], none⟩] [1, 2, 3, 5, 11, 24])
  (.seq (.seq (.region [⟨some 25, .mv (.con (.int .i64 0)), none⟩] [1, 2, 3, 5, 11, 24, 25])
  (.block 0 (.loop [1, 2, 3, 5, 11, 24, 25] (.seq (.seq (.region [⟨some 196, .mv (.t 25), none⟩, ⟨some 197, .mv (.t 2), none⟩, ⟨some 198, .len (.t 197), none⟩, ⟨some 199, .cmp .lss (.t 196) (.t 198), none⟩] [1, 2, 3, 5, 11, 24, 25, 199])
    (.cond (.t 199) .skip (.exit 0)))
    (.seq (.block 1 (.region [⟨some 202, .fieldAddr 0 (.t 24), none⟩, ⟨some 203, .load false 1 (.t 202), none⟩, ⟨some 204, .mv (.t 2), none⟩, ⟨some 205, .mv (.t 25), none⟩, ⟨some 206, .indexAddr 1 (.t 204) (.t 205), none⟩, ⟨some 207, .load false 1 (.t 206), none⟩, ⟨some 208, .build [.d (.str ⟨#[]⟩), .d (.int .i64 0)] [(0, 1, .t 207), (1, 1, .con (.int .i64 5))], none⟩, ⟨some 209, .buildSlice 58 2 [.t 208], none⟩, ⟨some 210, .append 58 2 24 (.t 203) (.t 209), none⟩, ⟨some 211, .fieldAddr 0 (.t 24), none⟩, ⟨none, .store false 1 (.t 211) (.t 210), none⟩] [1, 2, 3, 5, 11, 24, 25]))
    (.region [⟨some 200, .mv (.t 25), none⟩, ⟨some 201, .arith .add .i64 (.t 200) (.con (.int .i64 1)), none⟩, ⟨some 25, .mv (.t 201), none⟩] [1, 2, 3, 5, 11, 24, 25]))))))
  (.seq (.region [⟨some 213, .load true 3 (.t 5), none⟩, ⟨some 214, .call 0 19 [.t 213], none⟩, ⟨some 215, .mv (.t 1), none⟩, ⟨some 216, .call 0 20 [.t 215], none⟩, ⟨some 217, .load true 3 (.t 24), none⟩, ⟨some 218, .mv (.t 2), none⟩, ⟨some 219, .len (.t 218), none⟩, ⟨some 220, .mv (.t 3), none⟩, ⟨some 221, .call 0 21 [.t 220], none⟩, ⟨some 222, .build [.d (.int .i64 0), .d (.int .i64 0), .d (.int .i64 0), .d (.int .i64 0), .d (.row 0 [])] [(0, 1, .con (.int .i64 5)), (3, 1, .t 219), (4, 1, .t 221)], none⟩, ⟨some 223, .buildSlice 63 5 [.t 222], none⟩, ⟨some 224, .call 2 29 [.t 214, .t 216, .t 217, .t 223], none⟩, ⟨some 212, .mv (.t 224), none⟩, ⟨some 225, .extract (.t 212) 0, none⟩, ⟨some 226, .extract (.t 212) 1, none⟩, ⟨some 26, .mv (.t 225), none⟩, ⟨some 27, .mv (.t 226), none⟩] [11, 26, 27])
  (.seq (.region [⟨some 227, .mv (.t 27), none⟩, ⟨some 228, .cmp .eql (.t 227) (.con (.int .i64 0)), none⟩, ⟨some 229, .mv (.t 228), none⟩, ⟨some 230, .mv (.t 26), some (229, true)⟩, ⟨some 231, .len (.t 230), some (229, true)⟩, ⟨some 232, .cmp .eql (.t 231) (.con (.int .i64 1)), some (229, true)⟩, ⟨some 233, .pick (.t 229) (.t 232) (.con (.bool false)), none⟩, ⟨some 234, .mv (.t 233), none⟩, ⟨some 235, .mv (.t 26), some (234, true)⟩, ⟨some 236, .indexAddr 1 (.t 235) (.con (.int .i64 0)), some (234, true)⟩, ⟨some 237, .load false 1 (.t 236), some (234, true)⟩, ⟨some 238, .cmp .eql (.t 237) (.con (.int .i64 0)), some (234, true)⟩, ⟨some 239, .mv (.t 11), some (234, true)⟩, ⟨some 240, .cmp .eql (.t 239) (.con (.int .i64 0)), some (234, true)⟩, ⟨some 241, .boolEq false (.t 238) (.t 240), some (234, true)⟩, ⟨some 242, .pick (.t 234) (.t 241) (.con (.bool false)), none⟩, ⟨some 243, .mv (.t 242), none⟩, ⟨some 244, .mv (.t 26), some (243, true)⟩, ⟨some 245, .indexAddr 1 (.t 244) (.con (.int .i64 0)), some (243, true)⟩, ⟨some 246, .load false 1 (.t 245), some (243, true)⟩, ⟨some 247, .cmp .eql (.t 246) (.con (.int .i64 0)), some (243, true)⟩, ⟨some 248, .mv (.t 247), some (243, true)⟩, ⟨some 249, .mv (.t 26), some (248, false)⟩, ⟨some 250, .indexAddr 1 (.t 249) (.con (.int .i64 0)), some (248, false)⟩, ⟨some 251, .load false 1 (.t 250), some (248, false)⟩, ⟨some 252, .cmp .eql (.t 251) (.con (.int .i64 9)), some (248, false)⟩, ⟨some 253, .pick (.t 248) (.con (.bool true)) (.t 252), some (243, true)⟩, ⟨some 254, .pick (.t 243) (.t 253) (.con (.bool false)), none⟩, ⟨some 255, .mv (.t 254), none⟩, ⟨some 256, .call 1 17 [], some (255, true)⟩, ⟨some 257, .pick (.t 255) (.t 256) (.con (.bool false)), none⟩, ⟨some 10, .mv (.t 257), none⟩] [10])
  .ret)))))

/-- palantype/palantypelaw04.MendTrouble, part 1 -/
def v4_1 : Code :=
  (.seq (.region [⟨some 157, .buildArr 48 3 [], none⟩, ⟨some 158, .mv (.t 1), none⟩, ⟨some 159, .append 48 3 24 (.t 157) (.t 158), none⟩, ⟨some 160, .load true 3 (.t 9), none⟩, ⟨some 161, .buildSlice 48 3 [.t 160], none⟩, ⟨some 162, .append 48 3 24 (.t 159) (.t 161), none⟩, ⟨some 21, .mv (.t 162), none⟩] [1, 2, 3, 5, 11, 21])
  (.seq (.seq (.region [⟨some 163, .mv (.t 21), none⟩, ⟨some 164, .call 1 27 [.t 163], none⟩, ⟨some 165, .cmp .eql (.t 164) (.con (.int .i64 0)), none⟩] [1, 2, 3, 5, 11, 21, 165])
  (.cond (.t 165) (.seq (.frz 21 (.region [⟨some 167, .load true 3 (.t 5), none⟩, ⟨some 168, .call 0 19 [.t 167], none⟩, ⟨some 169, .mv (.t 21), none⟩, ⟨some 170, .call 0 20 [.t 169], none⟩, ⟨some 171, .mv (.t 2), none⟩, ⟨some 172, .call 0 21 [.t 171], none⟩, ⟨some 173, .mv (.t 3), none⟩, ⟨some 174, .call 0 21 [.t 173], none⟩, ⟨some 175, .call 1 18 [.t 168, .t 170, .t 172, .t 174], none⟩, ⟨some 166, .mv (.t 175), none⟩, ⟨some 176, .extract (.t 166) 0, none⟩, ⟨some 177, .extract (.t 166) 1, none⟩, ⟨some 22, .mv (.t 176), none⟩, ⟨some 23, .mv (.t 177), none⟩] [1, 2, 3, 5, 11, 22, 23]))
   (.seq (.region [⟨some 178, .mv (.t 23), none⟩, ⟨some 179, .cmp .neq (.t 178) (.con (.int .i64 0)), none⟩, ⟨some 180, .mv (.t 179), none⟩, ⟨some 181, .mv (.t 22), some (180, false)⟩, ⟨some 182, .mv (.t 11), some (180, false)⟩, ⟨some 183, .cmp .gtr (.t 181) (.t 182), some (180, false)⟩, ⟨some 184, .pick (.t 180) (.con (.bool true)) (.t 183), none⟩] [1, 2, 3, 5, 11, 184])
   (.cond (.t 184) (.seq (.region [⟨some 10, .mv (.con (.bool false)), none⟩] [10])
    .ret) .skip))) .skip))
  v4_2))

/-- palantype/palantypelaw04.MendTrouble -/
def v4 : Code :=
  (.seq (.region [⟨some 5, .box (.t 0), none⟩, ⟨some 9, .box (.t 4), none⟩, ⟨some 10, .mv (.con (.bool false)), none⟩] [1, 2, 3, 5, 9])
  (.seq (.seq (.region [⟨some 28, .load true 3 (.t 5), none⟩, ⟨some 29, .mv (.t 1), none⟩, ⟨some 30, .call 1 15 [.t 28, .t 29], none⟩, ⟨some 31, .not (.t 30), none⟩, ⟨some 32, .mv (.t 31), none⟩, ⟨some 33, .mv (.t 2), some (32, false)⟩, ⟨some 34, .call 1 16 [.t 33, .con (.int .i64 90)], some (32, false)⟩, ⟨some 35, .not (.t 34), some (32, false)⟩, ⟨some 36, .pick (.t 32) (.con (.bool true)) (.t 35), none⟩, ⟨some 37, .mv (.t 36), none⟩, ⟨some 38, .mv (.t 3), some (37, false)⟩, ⟨some 39, .call 1 16 [.t 38, .con (.int .i64 90)], some (37, false)⟩, ⟨some 40, .not (.t 39), some (37, false)⟩, ⟨some 41, .pick (.t 37) (.con (.bool true)) (.t 40), none⟩, ⟨some 42, .mv (.t 41), none⟩, ⟨some 43, .load true 3 (.t 5), some (42, false)⟩, ⟨some 44, .mv (.t 1), some (42, false)⟩, ⟨some 45, .call 1 22 [.t 43, .t 44], some (42, false)⟩, ⟨some 46, .cmp .neq (.t 45) (.con (.int .i64 0)), some (42, false)⟩, ⟨some 47, .pick (.t 42) (.con (.bool true)) (.t 46), none⟩, ⟨some 48, .mv (.t 47), none⟩, ⟨some 49, .mv (.t 2), some (48, false)⟩, ⟨some 50, .call 1 23 [.t 49], some (48, false)⟩, ⟨some 51, .cmp .neq (.t 50) (.con (.int .i64 0)), some (48, false)⟩, ⟨some 52, .pick (.t 48) (.con (.bool true)) (.t 51), none⟩, ⟨some 53, .mv (.t 52), none⟩, ⟨some 54, .mv (.t 3), some (53, false)⟩, ⟨some 55, .call 1 23 [.t 54], some (53, false)⟩, ⟨some 56, .cmp .neq (.t 55) (.con (.int .i64 0)), some (53, false)⟩, ⟨some 57, .pick (.t 53) (.con (.bool true)) (.t 56), none⟩] [1, 2, 3, 5, 9, 57])
  (.cond (.t 57) (.seq (.region [⟨some 58, .call 1 17 [], none⟩, ⟨some 10, .mv (.t 58), none⟩] [10])
   .ret) .skip))
  (.seq (.region [⟨some 60, .load true 3 (.t 5), none⟩, ⟨some 61, .call 0 19 [.t 60], none⟩, ⟨some 62, .mv (.t 1), none⟩, ⟨some 63, .call 0 20 [.t 62], none⟩, ⟨some 64, .mv (.t 2), none⟩, ⟨some 65, .call 0 21 [.t 64], none⟩, ⟨some 66, .mv (.t 3), none⟩, ⟨some 67, .call 0 21 [.t 66], none⟩, ⟨some 68, .call 1 18 [.t 61, .t 63, .t 65, .t 67], none⟩, ⟨some 59, .mv (.t 68), none⟩, ⟨some 69, .extract (.t 59) 0, none⟩, ⟨some 70, .extract (.t 59) 1, none⟩, ⟨some 11, .mv (.t 69), none⟩, ⟨some 12, .mv (.t 70), none⟩] [1, 2, 3, 5, 9, 11, 12])
  (.seq (.region [⟨some 72, .load true 3 (.t 5), none⟩, ⟨some 73, .call 0 19 [.t 72], none⟩, ⟨some 74, .mv (.t 2), none⟩, ⟨some 75, .call 0 21 [.t 74], none⟩, ⟨some 76, .mv (.t 3), none⟩, ⟨some 77, .call 0 21 [.t 76], none⟩, ⟨some 78, .call 1 18 [.t 73, .nil, .t 75, .t 77], none⟩, ⟨some 71, .mv (.t 78), none⟩, ⟨some 79, .extract (.t 71) 0, none⟩, ⟨some 80, .extract (.t 71) 1, none⟩, ⟨some 13, .mv (.t 79), none⟩, ⟨some 14, .mv (.t 80), none⟩] [1, 2, 3, 5, 9, 11, 12, 13, 14])
  (.seq (.region [⟨some 82, .load true 3 (.t 5), none⟩, ⟨some 83, .call 0 19 [.t 82], none⟩, ⟨some 84, .mv (.t 3), none⟩, ⟨some 85, .call 0 21 [.t 84], none⟩, ⟨some 86, .mv (.t 2), none⟩, ⟨some 87, .call 0 21 [.t 86], none⟩, ⟨some 88, .call 1 18 [.t 83, .nil, .t 85, .t 87], none⟩, ⟨some 81, .mv (.t 88), none⟩, ⟨some 89, .extract (.t 81) 0, none⟩, ⟨some 90, .extract (.t 81) 1, none⟩, ⟨some 15, .mv (.t 89), none⟩, ⟨some 16, .mv (.t 90), none⟩] [1, 2, 3, 5, 9, 11, 12, 13, 14, 15, 16])
  (.seq (.region [⟨some 92, .load true 3 (.t 5), none⟩, ⟨some 93, .call 0 19 [.t 92], none⟩, ⟨some 94, .mv (.t 2), none⟩, ⟨some 95, .call 0 21 [.t 94], none⟩, ⟨some 96, .call 0 26 [.t 93, .t 95], none⟩, ⟨some 91, .mv (.t 96), none⟩, ⟨some 97, .extract (.t 91) 0, none⟩, ⟨some 98, .extract (.t 91) 1, none⟩, ⟨some 17, .mv (.t 97), none⟩, ⟨some 18, .mv (.t 98), none⟩] [1, 2, 3, 5, 9, 11, 12, 13, 14, 15, 16, 17, 18])
  (.seq (.region [⟨some 100, .load true 3 (.t 5), none⟩, ⟨some 101, .call 0 19 [.t 100], none⟩, ⟨some 102, .mv (.t 3), none⟩, ⟨some 103, .call 0 21 [.t 102], none⟩, ⟨some 104, .call 0 26 [.t 101, .t 103], none⟩, ⟨some 99, .mv (.t 104), none⟩, ⟨some 105, .extract (.t 99) 0, none⟩, ⟨some 106, .extract (.t 99) 1, none⟩, ⟨some 19, .mv (.t 105), none⟩, ⟨some 20, .mv (.t 106), none⟩] [1, 2, 3, 5, 9, 11, 12, 13, 14, 15, 16, 17, 18, 19, 20])
  (.seq (.seq (.region [⟨some 107, .mv (.t 12), none⟩, ⟨some 108, .cmp .neq (.t 107) (.con (.int .i64 0)), none⟩, ⟨some 109, .mv (.t 108), none⟩, ⟨some 110, .mv (.t 14), some (109, false)⟩, ⟨some 111, .cmp .neq (.t 110) (.con (.int .i64 0)), some (109, false)⟩, ⟨some 112, .pick (.t 109) (.con (.bool true)) (.t 111), none⟩, ⟨some 113, .mv (.t 112), none⟩, ⟨some 114, .mv (.t 16), some (113, false)⟩, ⟨some 115, .cmp .neq (.t 114) (.con (.int .i64 0)), some (113, false)⟩, ⟨some 116, .pick (.t 113) (.con (.bool true)) (.t 115), none⟩, ⟨some 117, .mv (.t 116), none⟩, ⟨some 118, .mv (.t 18), some (117, false)⟩, ⟨some 119, .cmp .neq (.t 118) (.con (.int .i64 0)), some (117, false)⟩, ⟨some 120, .pick (.t 117) (.con (.bool true)) (.t 119), none⟩, ⟨some 121, .mv (.t 120), none⟩, ⟨some 122, .mv (.t 20), some (121, false)⟩, ⟨some 123, .cmp .neq (.t 122) (.con (.int .i64 0)), some (121, false)⟩, ⟨some 124, .pick (.t 121) (.con (.bool true)) (.t 123), none⟩] [1, 2, 3, 5, 9, 11, 13, 15, 17, 19, 124])
  (.cond (.t 124) (.seq (.region [⟨some 10, .mv (.con (.bool false)), none⟩] [10])
   .ret) .skip))
  (.seq (.seq (.region [⟨some 125, .mv (.t 13), none⟩, ⟨some 126, .mv (.t 15), none⟩, ⟨some 127, .cmp .neq (.t 125) (.t 126), none⟩, ⟨some 128, .mv (.t 127), none⟩, ⟨some 129, .mv (.t 11), some (128, false)⟩, ⟨some 130, .mv (.t 13), some (128, false)⟩, ⟨some 131, .cmp .gtr (.t 129) (.t 130), some (128, false)⟩, ⟨some 132, .pick (.t 128) (.con (.bool true)) (.t 131), none⟩, ⟨some 133, .mv (.t 132), none⟩, ⟨some 134, .mv (.t 13), some (133, false)⟩, ⟨some 135, .mv (.t 17), some (133, false)⟩, ⟨some 136, .len (.t 135), some (133, false)⟩, ⟨some 137, .mv (.t 19), some (133, false)⟩, ⟨some 138, .len (.t 137), some (133, false)⟩, ⟨some 139, .max [.t 136, .t 138], some (133, false)⟩, ⟨some 140, .cmp .gtr (.t 134) (.t 139), some (133, false)⟩, ⟨some 141, .pick (.t 133) (.con (.bool true)) (.t 140), none⟩, ⟨some 142, .mv (.t 141), none⟩, ⟨some 143, .mv (.t 11), some (142, false)⟩, ⟨some 144, .mv (.t 17), some (142, false)⟩, ⟨some 145, .len (.t 144), some (142, false)⟩, ⟨some 146, .mv (.t 19), some (142, false)⟩, ⟨some 147, .len (.t 146), some (142, false)⟩, ⟨some 148, .arith .sub .i64 (.t 145) (.t 147), some (142, false)⟩, ⟨some 149, .mv (.t 19), some (142, false)⟩, ⟨some 150, .len (.t 149), some (142, false)⟩, ⟨some 151, .mv (.t 17), some (142, false)⟩, ⟨some 152, .len (.t 151), some (142, false)⟩, ⟨some 153, .arith .sub .i64 (.t 150) (.t 152), some (142, false)⟩, ⟨some 154, .max [.t 148, .t 153], some (142, false)⟩, ⟨some 155, .cmp .lss (.t 143) (.t 154), some (142, false)⟩, ⟨some 156, .pick (.t 142) (.con (.bool true)) (.t 155), none⟩] [1, 2, 3, 5, 9, 11, 156])
  (.cond (.t 156) (.seq (.region [⟨some 10, .mv (.con (.bool false)), none⟩] [10])
   .ret) .skip))
  v4_1)))))))))
def r4 : List Res := [.tmp 10]

theorem c4 : chkFn Tryz.prog 4 5 v4 r4 = true := by kernel_rfl
end Go.Vi
namespace Go.Vi
open Go.Proofs
set_option maxRecDepth 100000
set_option linter.unusedVariables false
set_option linter.unusedSimpArgs false
theorem listed2_ok {a b : List ByteArray} (ha : listedS a = 0) (hb : listedS b = 0) : listedS' [a, b] = 0 := by
  obtain ⟨a1, a2⟩ := listedS_ok ha
  obtain ⟨b1, b2⟩ := listedS_ok hb
  unfold listedS'
  rw [if_pos (by simp [a1, b1]), if_pos (by simp only [List.all_cons, List.all_nil, Bool.and_true, Bool.and_eq_true, List.all_eq_true]; exact ⟨a2, b2⟩)]
theorem ruled_nil {nums names nots} {sw : List Swp} (h : ruledE nums names nots sw = 0) : readE nums names nots = 0 ∧ ruledE nums names nots [] = 0 := by
  unfold ruledE at h ⊢
  by_cases h1 : readE nums names nots = 0
  · rw [if_pos h1]
    exact ⟨h1, rfl⟩
  · rw [if_neg h1] at h
    exact absurd h h1
/-- A request of one's own, in time: only the sense is asked. -/
theorem alone_mine (L : List (ByteArray × Mrk)) (sw : List Swp) (la lb : List ByteArray) (a1 : 1 ≤ la.length) (a2 : la.length ≤ 8) (b1 : 1 ≤ lb.length) (b2 : lb.length ≤ 8) (hb : ∀ s ∈ lb, textOk s = true) :
    aloneS L sw (la.map fun s => ⟨s, 5⟩) 0 0 ⟨5, 0, 0, la.length, lb⟩ = if eqGo (mayB sw) (senseM L la) (senseM L lb) = true then 0 else 9 := by
  have h1 : insideS (la.map fun s => (⟨s, 5⟩ : Sd)).length 0 la.length = true := by
    have : w64 ((la.length : Int) - la.length) = 0 := by rw [w64, wrap64 (by omega) (by omega)]; omega
    simp [insideS, this]
    decide
  have h2 : properS 5 la.length lb = true := by
    rw [proper_eq 5 la.length (by omega) lb (by simp only [maxLen]; omega)]
    simp only [texts, inR, Bool.and_eq_true, Bool.not_eq_true', Bool.and_eq_false_iff, decide_eq_true_eq, decide_eq_false_iff_not, List.all_eq_true]
    exact ⟨by omega, ⟨hb, by omega⟩, by omega, by decide⟩
  have h3 : ownS (la.map fun s => (⟨s, 5⟩ : Sd)) 0 la.length 5 = true := by
    rw [ownS, if_pos (by omega), List.all_eq_true]
    intro x hx
    obtain ⟨s, _, rfl⟩ := List.mem_map.1 (List.mem_of_mem_drop (List.mem_of_mem_take hx))
    exact decide_eq_true rfl
  have h4 : inR 0 0 (w64 (0 + 0)) = true := by decide
  have h5 : oldsS (la.map fun s => (⟨s, 5⟩ : Sd)) 0 (0 + la.length) = la := by
    rw [oldsS, List.drop_zero, List.take_of_length_le (by simp), List.map_map]
    exact List.map_id la
  rw [aloneS]
  dsimp only
  rw [h1, h2, Int.toNat_natCast, show (0 : Int).toNat = 0 from rfl, h3, h4, keptS, h5]
  cases eqGo (mayB sw) (senseM L la) (senseM L lb) <;> rfl
set_option maxHeartbeats 16000000 in
theorem g4 {nums names nots e1 e2 e3} (hx : LexIn nums names nots e1 e2 e3) (sw : List Swp) (se : List (List D)) (hse : swE sw se) (hsl : sw.length ≤ maxLen) (la lb : List ByteArray) (ea eb : List (List D)) (ha : txE la ea) (hb : txE lb eb) (hsa : Short la) (hsb : Short lb) (mk mo mn : Int) :
    GG 4 [(true, [.row 2 e1, .row 1 e2, .row 1 e3]), (false, [.row 3 se]), (false, [.row 1 ea]), (false, [.row 1 eb]), (true, [.int .u8 mk, .int .i64 mo, .int .i64 mn])] (.one (false, [.bool true])) := by
  have hls : se.length = sw.length := map_len hse
  have h15 := g15 nums names nots 3 e1 e2 e3 se hx.he1 hx.he2 hx.he3 hx.hm1 hx.hm2 hx.hm3.1 (fun x h => (hx.hm4 x h).1)
  have h16a := g16 la ea ha hsa.1 90
  have h16b := g16 lb eb hb hsb.1 90
  have h23a := g23 la ea ha hsa
  have h23b := g23 lb eb hb hsb
  have h17 := g17
  rw [hls] at h15
  cases c1 : thin nums names nots sw.length
  · rw [c1] at h15
    clear hx
    refine start c4 rfl ?_
    intro r' hr G hG hGW lt le eq add sub mul quo rem conv strEq strLt strCat strLen strAt strCut bytes ofBytes len nth cut fits app rep setEl look upd ne strNe H
    (try cbv)
    repeat' (first | ((refine callB (hG _ _ _ h15) ?_; intro b hb; subst hb); (try cbv)) | ((refine callB (hG _ _ _ h17) ?_; intro b hb; subst hb); (try cbv)) | fail)
    rw [hr]
  cases c2 : shortL la 90
  · rw [c1] at h15
    rw [c2] at h16a
    clear hx
    refine start c4 rfl ?_
    intro r' hr G hG hGW lt le eq add sub mul quo rem conv strEq strLt strCat strLen strAt strCut bytes ofBytes len nth cut fits app rep setEl look upd ne strNe H
    (try cbv)
    repeat' (first | ((refine callB (hG _ _ _ h15) ?_; intro b hb; subst hb); (try cbv)) | ((refine callB (hG _ _ _ h16a) ?_; intro b hb; subst hb); (try cbv)) | ((refine callB (hG _ _ _ h17) ?_; intro b hb; subst hb); (try cbv)) | fail)
    rw [hr]
  cases c3 : shortL lb 90
  · rw [c1] at h15
    rw [c2] at h16a
    rw [c3] at h16b
    clear hx
    refine start c4 rfl ?_
    intro r' hr G hG hGW lt le eq add sub mul quo rem conv strEq strLt strCat strLen strAt strCut bytes ofBytes len nth cut fits app rep setEl look upd ne strNe H
    (try cbv)
    repeat' (first | ((refine callB (hG _ _ _ h15) ?_; intro b hb; subst hb); (try cbv)) | ((refine callB (hG _ _ _ h16a) ?_; intro b hb; subst hb); (try cbv)) | ((refine callB (hG _ _ _ h16b) ?_; intro b hb; subst hb); (try cbv)) | ((refine callB (hG _ _ _ h17) ?_; intro b hb; subst hb); (try cbv)) | fail)
    rw [hr]
  rw [c1] at h15
  rw [c2] at h16a
  rw [c3] at h16b
  obtain ⟨ht, hsw⟩ := thinT c1
  have h22 := g22 hx ht sw se hse hsl
  by_cases d1 : ruledE nums names nots sw = 0
  rotate_left
  · generalize ruledE nums names nots sw = c at h22 d1
    clear hx
    refine start c4 rfl ?_
    intro r' hr G hG hGW lt le eq add sub mul quo rem conv strEq strLt strCat strLen strAt strCut bytes ofBytes len nth cut fits app rep setEl look upd ne strNe H
    have n1 : ne c 0 = true := by rw [H.ne]; simpa using d1
    (try cbv)
    repeat' (first | ((refine callB (hG _ _ _ h15) ?_; intro b hb; subst hb); (try cbv)) | ((refine callB (hG _ _ _ h16a) ?_; intro b hb; subst hb); (try cbv)) | ((refine callB (hG _ _ _ h16b) ?_; intro b hb; subst hb); (try cbv)) | ((refine callI (hG _ _ _ h22) ?_; intro b hb; subst hb); (try cbv)) | (rw [n1]; (try cbv)) | ((refine callB (hG _ _ _ h17) ?_; intro b hb; subst hb); (try cbv)) | fail)
    rw [hr]
  by_cases d2 : listedS la = 0
  rotate_left
  · rw [d1] at h22
    generalize listedS la = c at h23a d2
    clear hx
    refine start c4 rfl ?_
    intro r' hr G hG hGW lt le eq add sub mul quo rem conv strEq strLt strCat strLen strAt strCut bytes ofBytes len nth cut fits app rep setEl look upd ne strNe H
    have n0 : ne 0 0 = false := by rw [H.ne]; rfl
    have n1 : ne c 0 = true := by rw [H.ne]; simpa using d2
    (try cbv)
    repeat' (first | ((refine callB (hG _ _ _ h15) ?_; intro b hb; subst hb); (try cbv)) | ((refine callB (hG _ _ _ h16a) ?_; intro b hb; subst hb); (try cbv)) | ((refine callB (hG _ _ _ h16b) ?_; intro b hb; subst hb); (try cbv)) | ((refine callI (hG _ _ _ h22) ?_; intro b hb; subst hb); (try cbv)) | (rw [n0]; (try cbv)) | ((refine callI (hG _ _ _ h23a) ?_; intro b hb; subst hb); (try cbv)) | (rw [n1]; (try cbv)) | ((refine callB (hG _ _ _ h17) ?_; intro b hb; subst hb); (try cbv)) | fail)
    rw [hr]
  by_cases d3 : listedS lb = 0
  rotate_left
  · rw [d1] at h22
    rw [d2] at h23a
    generalize listedS lb = c at h23b d3
    clear hx
    refine start c4 rfl ?_
    intro r' hr G hG hGW lt le eq add sub mul quo rem conv strEq strLt strCat strLen strAt strCut bytes ofBytes len nth cut fits app rep setEl look upd ne strNe H
    have n0 : ne 0 0 = false := by rw [H.ne]; rfl
    have n1 : ne c 0 = true := by rw [H.ne]; simpa using d3
    (try cbv)
    repeat' (first | ((refine callB (hG _ _ _ h15) ?_; intro b hb; subst hb); (try cbv)) | ((refine callB (hG _ _ _ h16a) ?_; intro b hb; subst hb); (try cbv)) | ((refine callB (hG _ _ _ h16b) ?_; intro b hb; subst hb); (try cbv)) | ((refine callI (hG _ _ _ h22) ?_; intro b hb; subst hb); (try cbv)) | (rw [n0]; (try cbv)) | ((refine callI (hG _ _ _ h23a) ?_; intro b hb; subst hb); (try cbv)) | ((refine callI (hG _ _ _ h23b) ?_; intro b hb; subst hb); (try cbv)) | (rw [n1]; (try cbv)) | ((refine callB (hG _ _ _ h17) ?_; intro b hb; subst hb); (try cbv)) | fail)
    rw [hr]
  rw [d1] at h22
  rw [d2] at h23a
  rw [d3] at h23b
  obtain ⟨a80, aok⟩ := listedS_ok d2
  obtain ⟨b80, bok⟩ := listedS_ok d3
  obtain ⟨r0, rn⟩ := ruled_nil d1
  have h19 := g19T hx ht
  have h20 := g20 sw se hse (by omega)
  have h21a := g21 la ea ha (by omega)
  have h21b := g21 lb eb hb (by omega)
  obtain ⟨MA, hMA⟩ : ∃ M, M = senseM (lexP nums names nots) la := ⟨_, rfl⟩
  obtain ⟨MB, hMB⟩ : ∃ M, M = senseM (lexP nums names nots) lb := ⟨_, rfl⟩
  have hMAl : MA.length ≤ 80 := by have := senseM_len (lexP nums names nots) la; rw [← hMA] at this; omega
  have hMBl : MB.length ≤ 80 := by have := senseM_len (lexP nums names nots) lb; rw [← hMB] at this; omega
  have tr : ∀ s, ruledE nums names nots s = 0 → troubleR nums names nots s la lb = .many [(false, [.int .i64 (levS (mayB s) MA MB MA.length MB.length)]), (false, [.int .i64 0])] := fun s hs => by
    have : troubleE nums names nots s la lb = 0 := by rw [troubleE, if_pos hs, listed2_ok d2 d3]
    rw [troubleR, if_pos this, troubleN, hMA, hMB]
  have tr' : troubleR nums names nots [] lb la = .many [(false, [.int .i64 (levS (mayB []) MA MB MA.length MB.length)]), (false, [.int .i64 0])] := by
    have : troubleE nums names nots [] lb la = 0 := by rw [troubleE, if_pos rn, listed2_ok d3 d2]
    rw [troubleR, if_pos this, troubleN, levS_symm (mayB []) MA MB, hMA, hMB]
    have : (fun x y => mayB [] y x) = mayB [] := by
      funext x y
      rw [mayB_nil, mayB_nil, Bool.eq_iff_iff, decide_eq_true_eq, decide_eq_true_eq]
      exact ⟨fun h => h.symm, fun h => h.symm⟩
    rw [this]
  have h18a := g18 hx sw se hse hsl la lb ea eb ha hb hsa hsb
  have h18b := GG.row0 (pre := [_]) 0 (g18 hx [] [] rfl (by simp [maxLen]) la lb ea eb ha hb hsa hsb)
  have h18c := GG.row0 (pre := [_]) 0 (g18 hx [] [] rfl (by simp [maxLen]) lb la eb ea hb ha hsb hsa)
  rw [tr sw d1] at h18a
  rw [tr [] rn] at h18b
  rw [tr'] at h18c
  have h26a := g26 hx la ea ha hsa
  have h26b := g26 hx lb eb hb hsb
  rw [senseRes, senseE, if_pos r0, listedS_eq, if_pos d2, ← hMA] at h26a
  rw [senseRes, senseE, if_pos r0, listedS_eq, if_pos d3, ← hMB] at h26b
  obtain ⟨n, hn⟩ : ∃ n, n = levS (mayB sw) MA MB MA.length MB.length := ⟨_, rfl⟩
  obtain ⟨x, hxx⟩ : ∃ x, x = levS (mayB []) MA MB MA.length MB.length := ⟨_, rfl⟩
  have k1 : n ≤ x := by rw [hn, hxx]; exact levS_mono MA MB (fun a b => mayB_mono (fun x h => by simp at h) a b) _ _
  have k2 : x ≤ max (MA.length : Int) MB.length := by rw [hxx]; exact levS_max _ _ _ _ _
  have k3 : (MA.length : Int) - MB.length ≤ n ∧ (MB.length : Int) - MA.length ≤ n := by rw [hn]; exact levS_diff _ _ _ _ _
  have k4 : n = 0 ↔ eqGo (mayB sw) MA MB = true := by rw [hn]; exact lev_eqGo _ _ _
  rw [← hn] at h18a
  rw [← hxx] at h18b h18c
  obtain ⟨sw2, hsw2⟩ : ∃ s, s = sw ++ [(⟨mk, mo, mn⟩ : Swp)] := ⟨_, rfl⟩
  obtain ⟨se2, hse2⟩ : ∃ s, s = sw2.map fun x : Swp => [D.int .u8 x.k, .int .i64 x.o, .int .i64 x.n] := ⟨_, rfl⟩
  have hsw2l : sw2.length ≤ 26 := by rw [hsw2]; simp; omega
  have h27 := g27 sw2 se2 hse2 (by simp only [maxLen]; omega)
  have h20' := g20 sw2 se2 hse2 (by omega)
  have h18d := g18 hx sw2 se2 hse2 (by simp only [maxLen]; omega) la lb ea eb ha hb hsa hsb
  obtain ⟨n2, hn2⟩ : ∃ n, n = levS (mayB sw2) MA MB MA.length MB.length := ⟨_, rfl⟩
  have k5 : n2 ≤ n := by rw [hn, hn2]; exact levS_mono MA MB (fun a b => mayB_mono (fun x h => by rw [hsw2]; exact List.mem_append_left _ h) a b) _ _
  have h18d : swapsFault sw2 = 0 → GG 18 _ (.many [(false, [.int .i64 n2]), (false, [.int .i64 0])]) := fun hs => by
    rw [hn2, ← tr sw2 (by rw [ruledE, if_pos r0]; exact hs)]
    exact h18d
  have hSA : (MA.map fun x : Mrk => [D.int .u8 x.k, .int .i64 x.v]).length = MA.length := by simp
  have hSB : (MB.map fun x : Mrk => [D.int .u8 x.k, .int .i64 x.v]).length = MB.length := by simp
  have hea := map_len ha
  have heb := map_len hb
  have hg28a : GG 28 _ (.one (false, [.bool (inR (la.length : Int) 1 8)])) := g28 la.length 1 8
  have hg28b : GG 28 _ (.one (false, [.bool (inR (lb.length : Int) 1 8)])) := g28 lb.length 1 8
  obtain ⟨wd, hwd⟩ : ∃ wd : List Sd, wd = la.map fun s => ⟨s, 5⟩ := ⟨_, rfl⟩
  obtain ⟨we, hwe⟩ : ∃ we, we = wd.map fun x : Sd => [D.str x.t, .int .i64 x.sp] := ⟨_, rfl⟩
  have hask : AskIn nums names nots e1 e2 e3 sw se wd we [⟨5, 0, 0, la.length, lb⟩] [rqD ⟨5, 0, 0, la.length, lb⟩] := ⟨hx, hse, hsl, hwe, by rw [hwd]; simp only [List.length_map, maxLen]; omega, by rw [hwd]; intro x hx; obtain ⟨s, hs, rfl⟩ := List.mem_map.1 hx; exact hsa.2 s hs, rfl, by simp [maxLen], fun q hq => by rw [List.mem_singleton] at hq; subst hq; exact ⟨by dsimp only; omega, hsb⟩⟩
  have hrep : repE wd 0 0 = 0 := by
    have : repOk wd 0 0 = true := by
      simp only [repOk, Bool.and_eq_true, decide_eq_true_eq, List.all_eq_true]
      refine ⟨by rw [hwd]; simpa using a80, ?_, by decide, by decide⟩
      rw [hwd]
      intro x hx
      obtain ⟨s, hs, rfl⟩ := List.mem_map.1 hx
      rw [sdOk, aok s hs]
      rfl
    rw [repE, if_pos this]
  have h29 := g29 hask 0 0
  have hdec : decE nums names nots sw wd 0 0 1 = 0 := by
    unfold decE
    rw [if_neg (by simpa using d1), if_neg (by simpa using hrep)]
    rfl
  rw [decideR, if_pos (show decE nums names nots sw wd 0 0 [(⟨5, 0, 0, la.length, lb⟩ : Rq)].length = 0 from hdec), errsS, decS_one, refL, refS_nil] at h29
  have halone : 1 ≤ la.length → la.length ≤ 8 → 1 ≤ lb.length → lb.length ≤ 8 → aloneS (lexP nums names nots) sw wd 0 0 ⟨5, 0, 0, la.length, lb⟩ = if n = 0 then 0 else 9 := fun a1 a2 b1 b2 => by
    rw [hwd, alone_mine _ sw la lb a1 a2 b1 b2 bok, ← hMA, ← hMB]
    by_cases h : n = 0
    · rw [if_pos h, if_pos (k4.1 h)]
    · rw [if_neg h, if_neg (fun h2 => h (k4.2 h2))]
  have hpe : putD lb = .row 1 eb := by rw [show eb = _ from hb]; rfl
  simp only [rqD, hpe, List.map_cons, List.map_nil] at h29
  generalize aloneS (lexP nums names nots) sw wd 0 0 ⟨5, 0, 0, la.length, lb⟩ = er at h29 halone
  obtain ⟨SA, hSA0⟩ : ∃ S, S = MA.map fun x : Mrk => [D.int .u8 x.k, .int .i64 x.v] := ⟨_, rfl⟩
  obtain ⟨SB, hSB0⟩ : ∃ S, S = MB.map fun x : Mrk => [D.int .u8 x.k, .int .i64 x.v] := ⟨_, rfl⟩
  rw [← hSA0] at h26a hSA
  rw [← hSB0] at h26b hSB
  have hse3 : ∀ cs ∈ se, cs.length = 3 := by rw [show se = _ from hse]; simp
  have hwdl : wd.length = la.length := by rw [hwd]; simp
  have hal : ea = la.map fun s => [D.str s] := ha
  clear hx hask hSA0 hSB0 tr tr' hn hn2 hxx k4 hMA hMB hrep hdec hpe hb
  refine start c4 rfl ?_
  intro r' hr G hG hGW lt le eq add sub mul quo rem conv strEq strLt strCat strLen strAt strCut bytes ofBytes len nth cut fits app rep setEl look upd ne strNe H
  have n0 : ne 0 0 = false := by rw [H.ne]; rfl
  have z0 : eq 0 0 = true := by rw [H.eq]; rfl
  have nx : ne x x = false := by rw [H.ne]; simp
  have l1 : lt x n = false := by rw [H.lt]; exact decide_eq_false (by omega)
  have lA : len SA = MA.length := by rw [H.len, hSA]
  have lB : len SB = MB.length := by rw [H.len, hSB]
  have lm : ∀ y, y = max (len SA) (len SB) → lt y x = false := fun y hy => by rw [H.lt]; exact decide_eq_false (by omega)
  have s1 : sub .i64 (len SA) (len SB) = (MA.length : Int) - MB.length := by rw [H.sub, lA, lB, wrap64 (by omega) (by omega)]
  have s2 : sub .i64 (len SB) (len SA) = (MB.length : Int) - MA.length := by rw [H.sub, lA, lB, wrap64 (by omega) (by omega)]
  have lmd : ∀ y, (y = sub .i64 (len SA) (len SB) ∨ y = sub .i64 (len SB) (len SA)) → lt n y = false := fun y hy => by rw [H.lt]; exact decide_eq_false (by omega)
  have l5 : lt n n2 = false := by rw [H.lt]; exact decide_eq_false (by omega)
  have hap : app (app [] se) [[.int .u8 mk, .int .i64 mo, .int .i64 mn]] = se2 := by
    rw [H.app, H.app, hse2, hsw2, List.map_append, List.nil_append, ← show se = _ from hse]
    rfl
  have hf1 : fits 24 (app [] se) = true := H.fitsLe (by rw [H.app]; simp; omega) (by decide)
  have hf2 : fits 24 (app (app [] se) [[.int .u8 mk, .int .i64 mo, .int .i64 mn]]) = true := H.fitsLe (by rw [H.app, H.app]; simp; omega) (by decide)
  have leA : len ea = (la.length : Int) := by rw [H.len, hea]
  have leB : len eb = (lb.length : Int) := by rw [H.len, heb]
  have in1 : inR (la.length : Int) 1 8 = true → 1 ≤ la.length ∧ la.length ≤ 8 := fun h => by
    rw [inR, Bool.and_eq_true, decide_eq_true_eq, decide_eq_true_eq] at h; omega
  have in2 : inR (lb.length : Int) 1 8 = true → 1 ≤ lb.length ∧ lb.length ≤ 8 := fun h => by
    rw [inR, Bool.and_eq_true, decide_eq_true_eq, decide_eq_true_eq] at h; omega
  generalize inR (la.length : Int) 1 8 = i1 at hg28a in1
  generalize inR (lb.length : Int) 1 8 = i2 at hg28b in2
  rw [← leA] at hg28a h29
  rw [← leB] at hg28b
  obtain ⟨Wd, hWd⟩ : ∃ A : Nat → List (List D), ∀ k, A k = (la.take k).map fun s => [.str s, .int .i64 5] := ⟨_, fun _ => rfl⟩
  have hWd0 : Wd 0 = [] := by rw [hWd]; rfl
  have hWdn : Wd la.length = we := by rw [hWd, List.take_length, hwe, hwd, List.map_map]; rfl
  have hf3 : ∀ k x, fits 24 (app (Wd k) [x]) = true := fun k x => H.fitsLe (by rw [H.app, hWd]; simp; omega) (by decide)
  have e1n : eq (len [[.int .i64 er]]) 1 = true := by rw [H.len, H.eq]; rfl
  have e2n : nth [[.int .i64 er]] 0 = some [.int .i64 er] := by rw [H.nth]; rfl
  have hlin : ∀ k, lt (Int.ofNat k) (len ea) = decide (k < la.length) := fun k => by rw [leA, H.lt, Bool.eq_iff_iff, decide_eq_true_eq, decide_eq_true_eq]; exact Int.ofNat_lt
  have hnth : ∀ k s, la[k]? = some s → nth ea (Int.ofNat k) = some [.str s] := fun k s h => by
    rw [H.nth, if_pos (show (0 : Int) ≤ Int.ofNat k from Int.natCast_nonneg _), hal]
    show (la.map fun s => [D.str s])[k]? = _
    rw [List.getElem?_map, h]; rfl
  clear leA leB hal ha lA lB
  obtain ⟨ll, hll⟩ : ∃ l, l = la.length := ⟨_, rfl⟩
  refine exK ?_
  intro K hK
  obtain ⟨V2, hV2⟩ : ∃ V, V = v4_2 := ⟨_, rfl⟩
  obtain ⟨V1, hV1⟩ : ∃ V, V = v4_1 := ⟨_, rfl⟩
  have T2a : ex ⟨lt, le, eq, add, sub, mul, quo, rem, conv, strEq, strLt, strCat, strLen, strAt, strCut, bytes, ofBytes, len, nth, cut, fits, app, rep, setEl, look, upd, ne, strNe⟩ G none v4_2 [(1, .v false [.d (.row 3 se)]), (2, .v false [.d (.row 1 ea)]), (3, .v false [.d (.row 1 eb)]), (5, .v false [.loc 0 0]), (11, .v false [.d (.int .i64 n)]), (21, .v false [.own 2]), (165, .v false [.d (.bool false)])] [(0, .blk [.d (.row 2 e1), .d (.row 1 e2), .d (.row 1 e3)]), (1, .blk [.d (.int .u8 mk), .d (.int .i64 mo), .d (.int .i64 mn)]), (2, .arr 48 3 se2)] 5 K := by
    rw [v4_2]
    cases i1
    · (try cbv)
      repeat' (first | ((refine callB (hG _ _ _ hg28a) ?_; intro b hb; subst hb); (try cbv)) | ((refine callB (hG _ _ _ h17) ?_; intro b hb; subst hb); (try cbv)) | (rw [hK]; (try cbv)) | fail)
      rw [hr]
    cases i2
    · (try cbv)
      repeat' (first | ((refine callB (hG _ _ _ hg28a) ?_; intro b hb; subst hb); (try cbv)) | ((refine callB (hG _ _ _ hg28b) ?_; intro b hb; subst hb); (try cbv)) | ((refine callB (hG _ _ _ h17) ?_; intro b hb; subst hb); (try cbv)) | (rw [hK]; (try cbv)) | fail)
      rw [hr]
    obtain ⟨a1, a2⟩ := in1 rfl
    obtain ⟨b1, b2⟩ := in2 rfl
    have hal := halone a1 a2 b1 b2
    (try cbv)
    repeat' (first | ((refine callB (hG _ _ _ hg28a) ?_; intro b hb; subst hb); (try cbv)) | ((refine callB (hG _ _ _ hg28b) ?_; intro b hb; subst hb); (try cbv)) | fail)
    refine loopK ?_
    intro K5 hK5
    obtain ⟨N5, hN5⟩ : ∃ N, N = ll := ⟨_, rfl⟩
    obtain ⟨P5, hP5⟩ : ∃ P : Nat → Prop, ∀ k, P k = (True) := ⟨_, fun _ => rfl⟩
    refine loopV N5 (fun k => [(1, .v false [.d (.row 3 se)]), (2, .v false [.d (.row 1 ea)]), (3, .v false [.d (.row 1 eb)]), (5, .v false [.loc 0 0]), (11, .v false [.d (.int .i64 n)]), (24, .v false [.loc 5 0]), (25, .v false [.d (.int .i64 (Int.ofNat k))])]) (fun k => [(0, .blk [.d (.row 2 e1), .d (.row 1 e2), .d (.row 1 e3)]), (1, .blk [.d (.int .u8 mk), .d (.int .i64 mo), .d (.int .i64 mn)]), (2, .arr 48 3 se2), (5, .blk [.own 6, .d (.int .i64 0), .d (.int .i64 0)]), (6, .arr 58 2 (Wd k))]) P5 ?_ ?_ ?_
    · rw [hWd0]; exact ⟨rfl, rfl⟩
    · rw [hP5]; trivial
    intro k hk _
    rw [hN5] at hk
    rw [hll] at hk
    by_cases hkl : k < la.length
    · have g1 : lt (Int.ofNat k) (len ea) = true := by rw [hlin]; exact decide_eq_true hkl
      have g3 := H.inc hkl (show la.length ≤ maxLen by simp only [maxLen]; omega)
      obtain ⟨s, hs⟩ : ∃ s, la[k]? = some s := ⟨_, List.getElem?_eq_getElem hkl⟩
      have g2 := hnth k s hs
      have g4 : app (Wd k) [[.str s, .int .i64 5]] = Wd (k + 1) := by
        rw [H.app, hWd, hWd, List.take_add_one, hs, List.map_append]; rfl
      (try cbv)
      repeat' (first | (rw [g1]; (try cbv)) | (rw [g2]; (try cbv)) | (refine ⟨(hf3 k _), ?_⟩; (try cbv)) | (refine ⟨lenOne rfl, ?_⟩; (try cbv)) | fail)
      exact ⟨by rw [hN5, hll]; exact hkl, by rw [hP5]; trivial, by rw [g3], by rw [g4]⟩
    · have g1 : lt (Int.ofNat k) (len ea) = false := by rw [hlin]; exact decide_eq_false hkl
      have hkn : k = la.length := by omega
      have hWk : Wd k = we := by rw [hkn]; exact hWdn
      rw [hWk]
      by_cases hn0 : n = 0
      · rw [if_pos hn0] at hal
        have z1 : eq n 0 = true := by rw [H.eq]; simpa using hn0
        have z2 : eq er 0 = true := by rw [H.eq]; simpa using hal
        (try cbv)
        repeat' (first | (rw [g1]; (try cbv)) | (rw [hK5]; (try cbv)) | ((refine call0 (hG _ _ _ h19) ?_); (try cbv)) | ((refine call0 (hG _ _ _ h20) ?_); (try cbv)) | ((refine call0 (hG _ _ _ h21b) ?_); (try cbv)) | ((refine call0 (hG _ _ _ h29) ?_); (try cbv)) | (rw [e1n]; (try cbv)) | (rw [e2n]; (try cbv)) | (rw [z0]; (try cbv)) | (rw [z1]; (try cbv)) | (rw [z2]; (try cbv)) | ((refine callB (hG _ _ _ h17) ?_; intro b hb; subst hb); (try cbv)) | (rw [hK]; (try cbv)) | fail)
        rw [hr]
      · rw [if_neg hn0] at hal
        have z1 : eq n 0 = false := by rw [H.eq]; simpa using hn0
        have z2 : eq er 0 = false := by rw [H.eq, hal]; rfl
        have z3 : eq er 9 = true := by rw [H.eq, hal]; rfl
        (try cbv)
        repeat' (first | (rw [g1]; (try cbv)) | (rw [hK5]; (try cbv)) | ((refine call0 (hG _ _ _ h19) ?_); (try cbv)) | ((refine call0 (hG _ _ _ h20) ?_); (try cbv)) | ((refine call0 (hG _ _ _ h21b) ?_); (try cbv)) | ((refine call0 (hG _ _ _ h29) ?_); (try cbv)) | (rw [e1n]; (try cbv)) | (rw [e2n]; (try cbv)) | (rw [z0]; (try cbv)) | (rw [z1]; (try cbv)) | (rw [z2]; (try cbv)) | (rw [z3]; (try cbv)) | ((refine callB (hG _ _ _ h17) ?_; intro b hb; subst hb); (try cbv)) | (rw [hK]; (try cbv)) | fail)
        rw [hr]
  have T2b : ex ⟨lt, le, eq, add, sub, mul, quo, rem, conv, strEq, strLt, strCat, strLen, strAt, strCut, bytes, ofBytes, len, nth, cut, fits, app, rep, setEl, look, upd, ne, strNe⟩ G none v4_2 [(1, .v false [.d (.row 3 se)]), (2, .v false [.d (.row 1 ea)]), (3, .v false [.d (.row 1 eb)]), (5, .v false [.loc 0 0]), (11, .v false [.d (.int .i64 n)]), (184, .v false [.d (.bool false)])] [(0, .blk [.d (.row 2 e1), .d (.row 1 e2), .d (.row 1 e3)]), (1, .blk [.d (.int .u8 mk), .d (.int .i64 mo), .d (.int .i64 mn)])] 5 K := by
    rw [v4_2]
    cases i1
    · (try cbv)
      repeat' (first | ((refine callB (hG _ _ _ hg28a) ?_; intro b hb; subst hb); (try cbv)) | ((refine callB (hG _ _ _ h17) ?_; intro b hb; subst hb); (try cbv)) | (rw [hK]; (try cbv)) | fail)
      rw [hr]
    cases i2
    · (try cbv)
      repeat' (first | ((refine callB (hG _ _ _ hg28a) ?_; intro b hb; subst hb); (try cbv)) | ((refine callB (hG _ _ _ hg28b) ?_; intro b hb; subst hb); (try cbv)) | ((refine callB (hG _ _ _ h17) ?_; intro b hb; subst hb); (try cbv)) | (rw [hK]; (try cbv)) | fail)
      rw [hr]
    obtain ⟨a1, a2⟩ := in1 rfl
    obtain ⟨b1, b2⟩ := in2 rfl
    have hal := halone a1 a2 b1 b2
    (try cbv)
    repeat' (first | ((refine callB (hG _ _ _ hg28a) ?_; intro b hb; subst hb); (try cbv)) | ((refine callB (hG _ _ _ hg28b) ?_; intro b hb; subst hb); (try cbv)) | fail)
    refine loopK ?_
    intro K5 hK5
    obtain ⟨N5, hN5⟩ : ∃ N, N = ll := ⟨_, rfl⟩
    obtain ⟨P5, hP5⟩ : ∃ P : Nat → Prop, ∀ k, P k = (True) := ⟨_, fun _ => rfl⟩
    refine loopV N5 (fun k => [(1, .v false [.d (.row 3 se)]), (2, .v false [.d (.row 1 ea)]), (3, .v false [.d (.row 1 eb)]), (5, .v false [.loc 0 0]), (11, .v false [.d (.int .i64 n)]), (24, .v false [.loc 5 0]), (25, .v false [.d (.int .i64 (Int.ofNat k))])]) (fun k => [(0, .blk [.d (.row 2 e1), .d (.row 1 e2), .d (.row 1 e3)]), (1, .blk [.d (.int .u8 mk), .d (.int .i64 mo), .d (.int .i64 mn)]), (5, .blk [.own 6, .d (.int .i64 0), .d (.int .i64 0)]), (6, .arr 58 2 (Wd k))]) P5 ?_ ?_ ?_
    · rw [hWd0]; exact ⟨rfl, rfl⟩
    · rw [hP5]; trivial
    intro k hk _
    rw [hN5] at hk
    rw [hll] at hk
    by_cases hkl : k < la.length
    · have g1 : lt (Int.ofNat k) (len ea) = true := by rw [hlin]; exact decide_eq_true hkl
      have g3 := H.inc hkl (show la.length ≤ maxLen by simp only [maxLen]; omega)
      obtain ⟨s, hs⟩ : ∃ s, la[k]? = some s := ⟨_, List.getElem?_eq_getElem hkl⟩
      have g2 := hnth k s hs
      have g4 : app (Wd k) [[.str s, .int .i64 5]] = Wd (k + 1) := by
        rw [H.app, hWd, hWd, List.take_add_one, hs, List.map_append]; rfl
      (try cbv)
      repeat' (first | (rw [g1]; (try cbv)) | (rw [g2]; (try cbv)) | (refine ⟨(hf3 k _), ?_⟩; (try cbv)) | (refine ⟨lenOne rfl, ?_⟩; (try cbv)) | fail)
      exact ⟨by rw [hN5, hll]; exact hkl, by rw [hP5]; trivial, by rw [g3], by rw [g4]⟩
    · have g1 : lt (Int.ofNat k) (len ea) = false := by rw [hlin]; exact decide_eq_false hkl
      have hkn : k = la.length := by omega
      have hWk : Wd k = we := by rw [hkn]; exact hWdn
      rw [hWk]
      by_cases hn0 : n = 0
      · rw [if_pos hn0] at hal
        have z1 : eq n 0 = true := by rw [H.eq]; simpa using hn0
        have z2 : eq er 0 = true := by rw [H.eq]; simpa using hal
        (try cbv)
        repeat' (first | (rw [g1]; (try cbv)) | (rw [hK5]; (try cbv)) | ((refine call0 (hG _ _ _ h19) ?_); (try cbv)) | ((refine call0 (hG _ _ _ h20) ?_); (try cbv)) | ((refine call0 (hG _ _ _ h21b) ?_); (try cbv)) | ((refine call0 (hG _ _ _ h29) ?_); (try cbv)) | (rw [e1n]; (try cbv)) | (rw [e2n]; (try cbv)) | (rw [z0]; (try cbv)) | (rw [z1]; (try cbv)) | (rw [z2]; (try cbv)) | ((refine callB (hG _ _ _ h17) ?_; intro b hb; subst hb); (try cbv)) | (rw [hK]; (try cbv)) | fail)
        rw [hr]
      · rw [if_neg hn0] at hal
        have z1 : eq n 0 = false := by rw [H.eq]; simpa using hn0
        have z2 : eq er 0 = false := by rw [H.eq, hal]; rfl
        have z3 : eq er 9 = true := by rw [H.eq, hal]; rfl
        (try cbv)
        repeat' (first | (rw [g1]; (try cbv)) | (rw [hK5]; (try cbv)) | ((refine call0 (hG _ _ _ h19) ?_); (try cbv)) | ((refine call0 (hG _ _ _ h20) ?_); (try cbv)) | ((refine call0 (hG _ _ _ h21b) ?_); (try cbv)) | ((refine call0 (hG _ _ _ h29) ?_); (try cbv)) | (rw [e1n]; (try cbv)) | (rw [e2n]; (try cbv)) | (rw [z0]; (try cbv)) | (rw [z1]; (try cbv)) | (rw [z2]; (try cbv)) | (rw [z3]; (try cbv)) | ((refine callB (hG _ _ _ h17) ?_; intro b hb; subst hb); (try cbv)) | (rw [hK]; (try cbv)) | fail)
        rw [hr]
  rw [← hV2] at T2a T2b
  have T1 : ex ⟨lt, le, eq, add, sub, mul, quo, rem, conv, strEq, strLt, strCat, strLen, strAt, strCut, bytes, ofBytes, len, nth, cut, fits, app, rep, setEl, look, upd, ne, strNe⟩ G none v4_1 [(1, .v false [.d (.row 3 se)]), (2, .v false [.d (.row 1 ea)]), (3, .v false [.d (.row 1 eb)]), (5, .v false [.loc 0 0]), (9, .v false [.loc 1 0]), (11, .v false [.d (.int .i64 n)]), (156, .v false [.d (.bool false)])] [(0, .blk [.d (.row 2 e1), .d (.row 1 e2), .d (.row 1 e3)]), (1, .blk [.d (.int .u8 mk), .d (.int .i64 mo), .d (.int .i64 mn)])] 2 K := by
    rw [v4_1, ← hV2]
    by_cases hfl : swapsFault sw2 = 0
    · have h18d := h18d hfl
      rw [hfl] at h27
      (try cbv)
      repeat' (first | (refine ⟨hf1, ?_⟩; (try cbv)) | (refine ⟨lenOne rfl, ?_⟩; (try cbv)) | (refine ⟨hse3, ?_⟩; (try cbv)) | (refine ⟨lenOne rfl, ?_⟩; (try cbv)) | (refine ⟨hf2, ?_⟩; (try cbv)) | (refine ⟨lenOne rfl, ?_⟩; (try cbv)) | (rw [hap]; (try cbv)) | ((refine callI (hG _ _ _ h27) ?_; intro b hb; subst hb); (try cbv)) | (rw [z0]; (try cbv)) | ((refine call0 (hG _ _ _ h19) ?_); (try cbv)) | ((refine call0 (hG _ _ _ h20') ?_); (try cbv)) | ((refine call0 (hG _ _ _ h21a) ?_); (try cbv)) | ((refine call0 (hG _ _ _ h21b) ?_); (try cbv)) | ((refine ⟨_, hG _ _ _ h18d, rfl, ?_⟩); (try cbv)) | (rw [n0]; (try cbv)) | (rw [l5]; (try cbv)) | fail)
      exact Eq.mp (ex.eq_def _ _ _ _ _ _ _ _) T2b
    · generalize swapsFault sw2 = fl at h27 hfl
      have z1 : eq fl 0 = false := by rw [H.eq]; simpa using hfl
      (try cbv)
      repeat' (first | (refine ⟨hf1, ?_⟩; (try cbv)) | (refine ⟨lenOne rfl, ?_⟩; (try cbv)) | (refine ⟨hse3, ?_⟩; (try cbv)) | (refine ⟨lenOne rfl, ?_⟩; (try cbv)) | (refine ⟨hf2, ?_⟩; (try cbv)) | (refine ⟨lenOne rfl, ?_⟩; (try cbv)) | (rw [hap]; (try cbv)) | ((refine callI (hG _ _ _ h27) ?_; intro b hb; subst hb); (try cbv)) | (rw [z1]; (try cbv)) | fail)
      exact Eq.mp (ex.eq_def _ _ _ _ _ _ _ _) T2a
  rw [← hV1] at T1
  rw [v4, ← hV1]
  clear hK T2a T2b hV2 hV1
  cases q1 : lt (len SA) (len SB) <;> cases q2 : lt (sub .i64 (len SA) (len SB)) (sub .i64 (len SB) (len SA))
  · have u1 : lt (len SA) x = false := lm _ (by rw [H.lt] at q1; have := of_decide_eq_false q1; omega)
    have u2 : lt n (sub .i64 (len SA) (len SB)) = false := lmd _ (.inl rfl)
    clear lm lmd s1 s2 k1 k2 k3 k5
    (try cbv)
    repeat' (first | ((refine callB (hG _ _ _ h15) ?_; intro b hb; subst hb); (try cbv)) | ((refine callB (hG _ _ _ h16a) ?_; intro b hb; subst hb); (try cbv)) | ((refine callB (hG _ _ _ h16b) ?_; intro b hb; subst hb); (try cbv)) | ((refine callI (hG _ _ _ h22) ?_; intro b hb; subst hb); (try cbv)) | (rw [n0]; (try cbv)) | ((refine callI (hG _ _ _ h23a) ?_; intro b hb; subst hb); (try cbv)) | ((refine callI (hG _ _ _ h23b) ?_; intro b hb; subst hb); (try cbv)) | ((refine call0 (hG _ _ _ h19) ?_); (try cbv)) | ((refine call0 (hG _ _ _ h20) ?_); (try cbv)) | ((refine call0 (hG _ _ _ h21a) ?_); (try cbv)) | ((refine call0 (hG _ _ _ h21b) ?_); (try cbv)) | ((refine ⟨_, hG _ _ _ h18a, rfl, ?_⟩); (try cbv)) | ((refine ⟨_, hG _ _ _ h18b, rfl, ?_⟩); (try cbv)) | ((refine ⟨_, hG _ _ _ h18c, rfl, ?_⟩); (try cbv)) | ((refine call0 (hG _ _ _ h26a) ?_); (try cbv)) | ((refine call0 (hG _ _ _ h26b) ?_); (try cbv)) | (rw [nx]; (try cbv)) | (rw [l1]; (try cbv)) | (rw [q1]; (try cbv)) | (rw [q2]; (try cbv)) | (rw [u1]; (try cbv)) | (rw [u2]; (try cbv)) | fail)
    exact Eq.mp (ex.eq_def _ _ _ _ _ _ _ _) T1
  · have u1 : lt (len SA) x = false := lm _ (by rw [H.lt] at q1; have := of_decide_eq_false q1; omega)
    have u2 : lt n (sub .i64 (len SB) (len SA)) = false := lmd _ (.inr rfl)
    clear lm lmd s1 s2 k1 k2 k3 k5
    (try cbv)
    repeat' (first | ((refine callB (hG _ _ _ h15) ?_; intro b hb; subst hb); (try cbv)) | ((refine callB (hG _ _ _ h16a) ?_; intro b hb; subst hb); (try cbv)) | ((refine callB (hG _ _ _ h16b) ?_; intro b hb; subst hb); (try cbv)) | ((refine callI (hG _ _ _ h22) ?_; intro b hb; subst hb); (try cbv)) | (rw [n0]; (try cbv)) | ((refine callI (hG _ _ _ h23a) ?_; intro b hb; subst hb); (try cbv)) | ((refine callI (hG _ _ _ h23b) ?_; intro b hb; subst hb); (try cbv)) | ((refine call0 (hG _ _ _ h19) ?_); (try cbv)) | ((refine call0 (hG _ _ _ h20) ?_); (try cbv)) | ((refine call0 (hG _ _ _ h21a) ?_); (try cbv)) | ((refine call0 (hG _ _ _ h21b) ?_); (try cbv)) | ((refine ⟨_, hG _ _ _ h18a, rfl, ?_⟩); (try cbv)) | ((refine ⟨_, hG _ _ _ h18b, rfl, ?_⟩); (try cbv)) | ((refine ⟨_, hG _ _ _ h18c, rfl, ?_⟩); (try cbv)) | ((refine call0 (hG _ _ _ h26a) ?_); (try cbv)) | ((refine call0 (hG _ _ _ h26b) ?_); (try cbv)) | (rw [nx]; (try cbv)) | (rw [l1]; (try cbv)) | (rw [q1]; (try cbv)) | (rw [q2]; (try cbv)) | (rw [u1]; (try cbv)) | (rw [u2]; (try cbv)) | fail)
    exact Eq.mp (ex.eq_def _ _ _ _ _ _ _ _) T1
  · have u1 : lt (len SB) x = false := lm _ (by rw [H.lt] at q1; have := of_decide_eq_true q1; omega)
    have u2 : lt n (sub .i64 (len SA) (len SB)) = false := lmd _ (.inl rfl)
    clear lm lmd s1 s2 k1 k2 k3 k5
    (try cbv)
    repeat' (first | ((refine callB (hG _ _ _ h15) ?_; intro b hb; subst hb); (try cbv)) | ((refine callB (hG _ _ _ h16a) ?_; intro b hb; subst hb); (try cbv)) | ((refine callB (hG _ _ _ h16b) ?_; intro b hb; subst hb); (try cbv)) | ((refine callI (hG _ _ _ h22) ?_; intro b hb; subst hb); (try cbv)) | (rw [n0]; (try cbv)) | ((refine callI (hG _ _ _ h23a) ?_; intro b hb; subst hb); (try cbv)) | ((refine callI (hG _ _ _ h23b) ?_; intro b hb; subst hb); (try cbv)) | ((refine call0 (hG _ _ _ h19) ?_); (try cbv)) | ((refine call0 (hG _ _ _ h20) ?_); (try cbv)) | ((refine call0 (hG _ _ _ h21a) ?_); (try cbv)) | ((refine call0 (hG _ _ _ h21b) ?_); (try cbv)) | ((refine ⟨_, hG _ _ _ h18a, rfl, ?_⟩); (try cbv)) | ((refine ⟨_, hG _ _ _ h18b, rfl, ?_⟩); (try cbv)) | ((refine ⟨_, hG _ _ _ h18c, rfl, ?_⟩); (try cbv)) | ((refine call0 (hG _ _ _ h26a) ?_); (try cbv)) | ((refine call0 (hG _ _ _ h26b) ?_); (try cbv)) | (rw [nx]; (try cbv)) | (rw [l1]; (try cbv)) | (rw [q1]; (try cbv)) | (rw [q2]; (try cbv)) | (rw [u1]; (try cbv)) | (rw [u2]; (try cbv)) | fail)
    exact Eq.mp (ex.eq_def _ _ _ _ _ _ _ _) T1
  · have u1 : lt (len SB) x = false := lm _ (by rw [H.lt] at q1; have := of_decide_eq_true q1; omega)
    have u2 : lt n (sub .i64 (len SB) (len SA)) = false := lmd _ (.inr rfl)
    clear lm lmd s1 s2 k1 k2 k3 k5
    (try cbv)
    repeat' (first | ((refine callB (hG _ _ _ h15) ?_; intro b hb; subst hb); (try cbv)) | ((refine callB (hG _ _ _ h16a) ?_; intro b hb; subst hb); (try cbv)) | ((refine callB (hG _ _ _ h16b) ?_; intro b hb; subst hb); (try cbv)) | ((refine callI (hG _ _ _ h22) ?_; intro b hb; subst hb); (try cbv)) | (rw [n0]; (try cbv)) | ((refine callI (hG _ _ _ h23a) ?_; intro b hb; subst hb); (try cbv)) | ((refine callI (hG _ _ _ h23b) ?_; intro b hb; subst hb); (try cbv)) | ((refine call0 (hG _ _ _ h19) ?_); (try cbv)) | ((refine call0 (hG _ _ _ h20) ?_); (try cbv)) | ((refine call0 (hG _ _ _ h21a) ?_); (try cbv)) | ((refine call0 (hG _ _ _ h21b) ?_); (try cbv)) | ((refine ⟨_, hG _ _ _ h18a, rfl, ?_⟩); (try cbv)) | ((refine ⟨_, hG _ _ _ h18b, rfl, ?_⟩); (try cbv)) | ((refine ⟨_, hG _ _ _ h18c, rfl, ?_⟩); (try cbv)) | ((refine call0 (hG _ _ _ h26a) ?_); (try cbv)) | ((refine call0 (hG _ _ _ h26b) ?_); (try cbv)) | (rw [nx]; (try cbv)) | (rw [l1]; (try cbv)) | (rw [q1]; (try cbv)) | (rw [q2]; (try cbv)) | (rw [u1]; (try cbv)) | (rw [u2]; (try cbv)) | fail)
    exact Eq.mp (ex.eq_def _ _ _ _ _ _ _ _) T1
theorem law4 (xs : List DV) (h : All2 (Typed Tryz.prog 6) [26, 27, 24, 24, 48] xs) : GG 4 xs (.one (false, [.bool true])) := by
  obtain ⟨⟨b1, d1⟩, ⟨b2, d2⟩, ⟨b3, d3⟩, ⟨b4, d4⟩, ⟨b5, d5⟩, rfl, ⟨h1, k1⟩, ⟨h2, k2⟩, ⟨h3, k3⟩, ⟨h4, k4⟩, ⟨h5, k5⟩⟩ := all2_five h
  obtain ⟨nums, names, nots, e1, e2, e3, rfl, hx⟩ := hasLex h1
  obtain ⟨sw, se, rfl, hse, hsl⟩ := hasSwaps h2
  obtain ⟨la, ea, rfl, ha, hsa⟩ := hasTexts h3
  obtain ⟨lb, eb, rfl, hb, hsb⟩ := hasTexts h4
  obtain ⟨m, rfl, _⟩ := hasSwp h5
  dsimp only at k1 k2 k3 k4 k5
  rw [k1, k2, k3, k4, k5, lexArg, swapsArg, textsArg, swpArg]
  exact g4 hx sw se hse hsl la lb ea eb ha hb hsa hsb m.k m.o m.n
end Go.Vi
