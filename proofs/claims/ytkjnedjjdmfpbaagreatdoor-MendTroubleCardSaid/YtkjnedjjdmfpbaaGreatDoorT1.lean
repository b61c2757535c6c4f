/-
  The program's functions as the framework's texts.
-/
import Derived.Test.YtkjnedjjdmfpbaaGreatDoorA1
set_option linter.unusedVariables false
set_option linter.unusedSimpArgs false
set_option linter.unusedSectionVars false
namespace Go.Vi
/-- palantype/palantypelaw04.Thin -/
def v15 : Code :=
  (.seq (.region [⟨some 2, .box (.t 0), none⟩, ⟨some 4, .mv (.con (.bool false)), none⟩] [1, 2])
  (.seq (.seq (.region [⟨some 5, .mv (.con (.int .i64 0)), none⟩] [1, 2, 5])
  (.block 0 (.loop [1, 2, 5] (.seq (.seq (.region [⟨some 7, .mv (.t 5), none⟩, ⟨some 8, .fieldAddr 0 (.t 2), none⟩, ⟨some 9, .load false 1 (.t 8), none⟩, ⟨some 10, .len (.t 9), none⟩, ⟨some 11, .cmp .lss (.t 7) (.t 10), none⟩, ⟨some 12, .mv (.t 11), none⟩, ⟨some 13, .mv (.t 5), some (12, true)⟩, ⟨some 14, .cmp .lss (.t 13) (.con (.int .i64 46)), some (12, true)⟩, ⟨some 15, .pick (.t 12) (.t 14) (.con (.bool false)), none⟩] [1, 2, 5, 15])
    (.cond (.t 15) .skip (.exit 0)))
    (.seq (.block 1 (.seq (.region [⟨some 18, .fieldAddr 0 (.t 2), none⟩, ⟨some 19, .load false 1 (.t 18), none⟩, ⟨some 20, .mv (.t 5), none⟩, ⟨some 21, .indexAddr 2 (.t 19) (.t 20), none⟩, ⟨some 22, .fieldAddr 0 (.t 21), none⟩, ⟨some 23, .load false 1 (.t 22), none⟩, ⟨some 24, .lenStr (.t 23), none⟩, ⟨some 25, .cmp .gtr (.t 24) (.con (.int .i64 40)), none⟩] [1, 2, 5, 25])
     (.cond (.t 25) (.seq (.region [⟨some 4, .mv (.con (.bool false)), none⟩] [4])
      .ret) .skip)))
    (.region [⟨some 16, .mv (.t 5), none⟩, ⟨some 17, .arith .add .i64 (.t 16) (.con (.int .i64 1)), none⟩, ⟨some 5, .mv (.t 17), none⟩] [1, 2, 5]))))))
  (.seq (.seq (.region [⟨some 6, .mv (.con (.int .i64 0)), none⟩] [1, 2, 6])
  (.block 2 (.loop [1, 2, 6] (.seq (.seq (.region [⟨some 26, .mv (.t 6), none⟩, ⟨some 27, .fieldAddr 1 (.t 2), none⟩, ⟨some 28, .load false 1 (.t 27), none⟩, ⟨some 29, .len (.t 28), none⟩, ⟨some 30, .cmp .lss (.t 26) (.t 29), none⟩, ⟨some 31, .mv (.t 30), none⟩, ⟨some 32, .mv (.t 6), some (31, true)⟩, ⟨some 33, .cmp .lss (.t 32) (.con (.int .i64 46)), some (31, true)⟩, ⟨some 34, .pick (.t 31) (.t 33) (.con (.bool false)), none⟩] [1, 2, 6, 34])
    (.cond (.t 34) .skip (.exit 2)))
    (.seq (.block 3 (.seq (.region [⟨some 37, .fieldAddr 1 (.t 2), none⟩, ⟨some 38, .load false 1 (.t 37), none⟩, ⟨some 39, .mv (.t 6), none⟩, ⟨some 40, .indexAddr 1 (.t 38) (.t 39), none⟩, ⟨some 41, .load false 1 (.t 40), none⟩, ⟨some 42, .call 1 16 [.t 41, .con (.int .i64 8)], none⟩, ⟨some 43, .not (.t 42), none⟩] [1, 2, 6, 43])
     (.cond (.t 43) (.seq (.region [⟨some 4, .mv (.con (.bool false)), none⟩] [4])
      .ret) .skip)))
    (.region [⟨some 35, .mv (.t 6), none⟩, ⟨some 36, .arith .add .i64 (.t 35) (.con (.int .i64 1)), none⟩, ⟨some 6, .mv (.t 36), none⟩] [1, 2, 6]))))))
  (.seq (.region [⟨some 44, .fieldAddr 0 (.t 2), none⟩, ⟨some 45, .load false 1 (.t 44), none⟩, ⟨some 46, .len (.t 45), none⟩, ⟨some 47, .cmp .leq (.t 46) (.con (.int .i64 45)), none⟩, ⟨some 48, .mv (.t 47), none⟩, ⟨some 49, .fieldAddr 1 (.t 2), some (48, true)⟩, ⟨some 50, .load false 1 (.t 49), some (48, true)⟩, ⟨some 51, .len (.t 50), some (48, true)⟩, ⟨some 52, .cmp .leq (.t 51) (.con (.int .i64 45)), some (48, true)⟩, ⟨some 53, .pick (.t 48) (.t 52) (.con (.bool false)), none⟩, ⟨some 54, .mv (.t 53), none⟩, ⟨some 55, .fieldAddr 2 (.t 2), some (54, true)⟩, ⟨some 56, .load false 1 (.t 55), some (54, true)⟩, ⟨some 57, .call 1 16 [.t 56, .con (.int .i64 45)], some (54, true)⟩, ⟨some 58, .pick (.t 54) (.t 57) (.con (.bool false)), none⟩, ⟨some 59, .mv (.t 58), none⟩, ⟨some 60, .mv (.t 1), some (59, true)⟩, ⟨some 61, .len (.t 60), some (59, true)⟩, ⟨some 62, .cmp .leq (.t 61) (.con (.int .i64 25)), some (59, true)⟩, ⟨some 63, .pick (.t 59) (.t 62) (.con (.bool false)), none⟩, ⟨some 4, .mv (.t 63), none⟩] [4])
  .ret))))
def r15 : List Res := [.tmp 4]

/-- palantype/palantypelaw04.short -/
def v16 : Code :=
  (.seq (.region [⟨some 4, .mv (.con (.bool false)), none⟩] [0, 1])
  (.seq (.seq (.region [⟨some 5, .mv (.con (.int .i64 0)), none⟩] [0, 1, 5])
  (.block 0 (.loop [0, 1, 5] (.seq (.seq (.region [⟨some 6, .mv (.t 5), none⟩, ⟨some 7, .mv (.t 0), none⟩, ⟨some 8, .len (.t 7), none⟩, ⟨some 9, .cmp .lss (.t 6) (.t 8), none⟩] [0, 1, 5, 9])
    (.cond (.t 9) .skip (.exit 0)))
    (.seq (.block 1 (.seq (.region [⟨some 12, .mv (.t 0), none⟩, ⟨some 13, .mv (.t 5), none⟩, ⟨some 14, .indexAddr 1 (.t 12) (.t 13), none⟩, ⟨some 15, .load false 1 (.t 14), none⟩, ⟨some 16, .lenStr (.t 15), none⟩, ⟨some 17, .cmp .gtr (.t 16) (.con (.int .i64 40)), none⟩] [0, 1, 5, 17])
     (.cond (.t 17) (.seq (.region [⟨some 4, .mv (.con (.bool false)), none⟩] [4])
      .ret) .skip)))
    (.region [⟨some 10, .mv (.t 5), none⟩, ⟨some 11, .arith .add .i64 (.t 10) (.con (.int .i64 1)), none⟩, ⟨some 5, .mv (.t 11), none⟩] [0, 1, 5]))))))
  (.seq (.region [⟨some 18, .mv (.t 0), none⟩, ⟨some 19, .len (.t 18), none⟩, ⟨some 20, .mv (.t 1), none⟩, ⟨some 21, .cmp .leq (.t 19) (.t 20), none⟩, ⟨some 4, .mv (.t 21), none⟩] [4])
  .ret)))
def r16 : List Res := [.tmp 4]

/-- palantype/palantypelaw04.awake -/
def v17 : Code :=
  (.seq (.region [⟨some 0, .mv (.con (.bool false)), none⟩] [])
  (.seq (.region [⟨some 12, .call 0 48 [], none⟩, ⟨some 11, .mv (.t 12), none⟩, ⟨some 13, .extract (.t 11) 0, none⟩, ⟨some 14, .extract (.t 11) 1, none⟩, ⟨some 1, .alloc [.nil 123 2, .nil 24 1, .nil 9 1], none⟩, ⟨none, .store true 3 (.t 1) (.t 13), none⟩, ⟨some 2, .mv (.t 14), none⟩] [1, 2])
  (.seq (.region [⟨some 16, .load true 3 (.t 1), none⟩, ⟨some 17, .buildSlice 9 1 [.con (.str ⟨#[83, 109, 121, 116, 104]⟩), .con (.str ⟨#[100, 105, 100]⟩), .con (.str ⟨#[110, 111, 116]⟩), .con (.str ⟨#[112, 97, 121]⟩), .con (.str ⟨#[116, 101, 110]⟩), .con (.str ⟨#[48, 48, 55]⟩), .con (.str ⟨#[56]⟩)], none⟩, ⟨some 18, .call 0 26 [.t 16, .t 17], none⟩, ⟨some 15, .mv (.t 18), none⟩, ⟨some 19, .extract (.t 15) 0, none⟩, ⟨some 20, .extract (.t 15) 1, none⟩, ⟨some 3, .mv (.t 19), none⟩, ⟨some 4, .mv (.t 20), none⟩] [1, 2, 3, 4])
  (.seq (.region [⟨some 22, .load true 3 (.t 1), none⟩, ⟨some 23, .mv (.t 2), none⟩, ⟨some 24, .buildSlice 9 1 [.con (.str ⟨#[110, 111, 116]⟩), .con (.str ⟨#[116, 101, 110]⟩)], none⟩, ⟨some 25, .buildSlice 9 1 [.con (.str ⟨#[110, 101, 118, 101, 114]⟩), .con (.str ⟨#[49, 50]⟩)], none⟩, ⟨some 26, .call 1 18 [.t 22, .t 23, .t 24, .t 25], none⟩, ⟨some 21, .mv (.t 26), none⟩, ⟨some 27, .extract (.t 21) 0, none⟩, ⟨some 28, .extract (.t 21) 1, none⟩, ⟨some 5, .mv (.t 27), none⟩, ⟨some 6, .mv (.t 28), none⟩] [1, 2, 3, 4, 5, 6])
  (.seq (.region [⟨some 30, .call 0 49 [], none⟩, ⟨some 29, .mv (.t 30), none⟩, ⟨some 31, .extract (.t 29) 0, none⟩, ⟨some 32, .extract (.t 29) 1, none⟩, ⟨some 7, .alloc [.nil 58 2, .d (.int .i64 0), .d (.int .i64 0)], none⟩, ⟨none, .store true 3 (.t 7) (.t 31), none⟩, ⟨some 8, .mv (.t 32), none⟩] [1, 2, 3, 4, 5, 6, 7, 8])
  (.seq (.region [⟨some 34, .load true 3 (.t 1), none⟩, ⟨some 35, .mv (.t 2), none⟩, ⟨some 36, .load true 3 (.t 7), none⟩, ⟨some 37, .mv (.t 8), none⟩, ⟨some 38, .call 0 29 [.t 34, .t 35, .t 36, .t 37], none⟩, ⟨some 33, .mv (.t 38), none⟩, ⟨some 39, .extract (.t 33) 0, none⟩, ⟨some 40, .extract (.t 33) 1, none⟩, ⟨some 9, .mv (.t 39), none⟩, ⟨some 10, .mv (.t 40), none⟩] [3, 4, 5, 6, 9, 10])
  (.seq (.region [⟨some 41, .mv (.t 4), none⟩, ⟨some 42, .cmp .eql (.t 41) (.con (.int .i64 0)), none⟩, ⟨some 43, .mv (.t 42), none⟩, ⟨some 44, .mv (.t 3), some (43, true)⟩, ⟨some 45, .build [.d (.int .u8 0), .d (.int .i64 0)] [(0, 1, .con (.int .u8 2))], some (43, true)⟩, ⟨some 46, .build [.d (.int .u8 0), .d (.int .i64 0)] [(0, 1, .con (.int .u8 3))], some (43, true)⟩, ⟨some 47, .build [.d (.int .u8 0), .d (.int .i64 0)] [(0, 1, .con (.int .u8 1)), (1, 1, .con (.int .i64 10))], some (43, true)⟩, ⟨some 48, .build [.d (.int .u8 0), .d (.int .i64 0)] [(0, 1, .con (.int .u8 1)), (1, 1, .con (.int .i64 8))], some (43, true)⟩, ⟨some 49, .buildSlice 113 2 [.t 45, .t 46, .t 47, .t 48], some (43, true)⟩, ⟨some 50, .call 1 41 [.t 44, .t 49], some (43, true)⟩, ⟨some 51, .pick (.t 43) (.t 50) (.con (.bool false)), none⟩, ⟨some 52, .mv (.t 51), none⟩, ⟨some 53, .mv (.t 6), some (52, true)⟩, ⟨some 54, .cmp .eql (.t 53) (.con (.int .i64 0)), some (52, true)⟩, ⟨some 55, .pick (.t 52) (.t 54) (.con (.bool false)), none⟩, ⟨some 56, .mv (.t 55), none⟩, ⟨some 57, .mv (.t 5), some (56, true)⟩, ⟨some 58, .cmp .eql (.t 57) (.con (.int .i64 0)), some (56, true)⟩, ⟨some 59, .pick (.t 56) (.t 58) (.con (.bool false)), none⟩, ⟨some 60, .mv (.t 59), none⟩, ⟨some 61, .mv (.t 10), some (60, true)⟩, ⟨some 62, .cmp .eql (.t 61) (.con (.int .i64 0)), some (60, true)⟩, ⟨some 63, .pick (.t 60) (.t 62) (.con (.bool false)), none⟩, ⟨some 64, .mv (.t 63), none⟩, ⟨some 65, .mv (.t 9), some (64, true)⟩, ⟨some 66, .buildSlice 31 1 [.con (.int .i64 0), .con (.int .i64 0), .con (.int .i64 5), .con (.int .i64 11), .con (.int .i64 9)], some (64, true)⟩, ⟨some 67, .call 1 50 [.t 65, .t 66], some (64, true)⟩, ⟨some 68, .pick (.t 64) (.t 67) (.con (.bool false)), none⟩, ⟨some 0, .mv (.t 68), none⟩] [0])
  .ret)))))))
def r17 : List Res := [.tmp 0]

/-- palantype/mend.Trouble -/
def v18 : Code :=
  (.seq (.region [⟨some 4, .box (.t 0), none⟩, ⟨some 8, .mv (.con (.int .i64 0)), none⟩, ⟨some 9, .mv (.con (.int .i64 0)), none⟩] [1, 2, 3, 4])
  (.seq (.region [⟨some 14, .load true 3 (.t 4), none⟩, ⟨some 15, .mv (.t 1), none⟩, ⟨some 16, .call 0 51 [.t 14, .t 15], none⟩, ⟨some 13, .mv (.t 16), none⟩, ⟨some 17, .extract (.t 13) 0, none⟩, ⟨some 18, .extract (.t 13) 1, none⟩, ⟨some 10, .alloc [.d (.map0), .nil 109 3], none⟩, ⟨none, .store true 2 (.t 10) (.t 17), none⟩, ⟨some 11, .mv (.t 18), none⟩] [2, 3, 10, 11])
  (.seq (.seq (.region [⟨some 19, .mv (.t 11), none⟩, ⟨some 20, .cmp .neq (.t 19) (.con (.int .i64 0)), none⟩] [2, 3, 10, 11, 20])
  (.cond (.t 20) (.seq (.region [⟨some 21, .mv (.t 11), none⟩, ⟨some 8, .mv (.con (.int .i64 0)), none⟩, ⟨some 9, .mv (.t 21), none⟩] [8, 9])
   .ret) .skip))
  (.seq (.seq (.region [⟨some 22, .mv (.t 2), none⟩, ⟨some 23, .mv (.t 3), none⟩, ⟨some 24, .buildSlice 24 1 [.t 22, .t 23], none⟩, ⟨some 25, .call 1 52 [.t 24], none⟩, ⟨some 12, .mv (.t 25), none⟩] [2, 3, 10, 12])
  (.seq (.region [⟨some 26, .mv (.t 12), none⟩, ⟨some 27, .cmp .neq (.t 26) (.con (.int .i64 0)), none⟩] [2, 3, 10, 12, 27])
  (.cond (.t 27) (.seq (.region [⟨some 28, .mv (.t 12), none⟩, ⟨some 8, .mv (.con (.int .i64 0)), none⟩, ⟨some 9, .mv (.t 28), none⟩] [8, 9])
   .ret) .skip)))
  (.seq (.region [⟨some 29, .load true 2 (.t 10), none⟩, ⟨some 30, .fieldAddr 0 (.t 10), none⟩, ⟨some 31, .load false 1 (.t 30), none⟩, ⟨some 32, .mv (.t 2), none⟩, ⟨some 33, .call 0 54 [.t 31, .t 32], none⟩, ⟨some 34, .fieldAddr 0 (.t 10), none⟩, ⟨some 35, .load false 1 (.t 34), none⟩, ⟨some 36, .mv (.t 3), none⟩, ⟨some 37, .call 0 54 [.t 35, .t 36], none⟩, ⟨some 38, .call 1 53 [.t 29, .t 33, .t 37], none⟩, ⟨some 8, .mv (.t 38), none⟩, ⟨some 9, .mv (.con (.int .i64 0)), none⟩] [8, 9])
  .ret)))))
def r18 : List Res := [.tmp 8, .tmp 9]

/-- palantype/palantypelaw04.Lexicon -/
def v19 : Code :=
  (.seq (.region [⟨some 1, .box (.t 0), none⟩, ⟨some 2, .alloc [.nil 123 2, .nil 24 1, .nil 9 1], none⟩] [1, 2])
  (.seq (.region [⟨some 6, .fieldAddr 2 (.t 1), none⟩, ⟨some 7, .load false 1 (.t 6), none⟩, ⟨some 8, .call 0 21 [.t 7], none⟩, ⟨some 9, .build [.nil 123 2, .nil 24 1, .d (.row 0 [])] [(2, 1, .t 8)], none⟩, ⟨some 3, .alloc [.nil 123 2, .nil 24 1, .nil 9 1], none⟩, ⟨none, .store true 3 (.t 3) (.t 9), none⟩] [1, 2, 3])
  (.seq (.seq (.region [⟨some 4, .mv (.con (.int .i64 0)), none⟩] [1, 2, 3, 4])
  (.block 0 (.loop [1, 2, 3, 4] (.seq (.seq (.region [⟨some 10, .mv (.t 4), none⟩, ⟨some 11, .fieldAddr 0 (.t 1), none⟩, ⟨some 12, .load false 1 (.t 11), none⟩, ⟨some 13, .len (.t 12), none⟩, ⟨some 14, .cmp .lss (.t 10) (.t 13), none⟩] [1, 2, 3, 4, 14])
    (.cond (.t 14) .skip (.exit 0)))
    (.seq (.block 1 (.region [⟨some 17, .fieldAddr 0 (.t 3), none⟩, ⟨some 18, .load false 1 (.t 17), none⟩, ⟨some 19, .fieldAddr 0 (.t 1), none⟩, ⟨some 20, .load false 1 (.t 19), none⟩, ⟨some 21, .mv (.t 4), none⟩, ⟨some 22, .indexAddr 2 (.t 20) (.t 21), none⟩, ⟨some 23, .fieldAddr 0 (.t 22), none⟩, ⟨some 24, .load false 1 (.t 23), none⟩, ⟨some 25, .fieldAddr 0 (.t 1), none⟩, ⟨some 26, .load false 1 (.t 25), none⟩, ⟨some 27, .mv (.t 4), none⟩, ⟨some 28, .indexAddr 2 (.t 26) (.t 27), none⟩, ⟨some 29, .fieldAddr 1 (.t 28), none⟩, ⟨some 30, .load false 1 (.t 29), none⟩, ⟨some 31, .build [.d (.str ⟨#[]⟩), .d (.int .i64 0)] [(0, 1, .t 24), (1, 1, .t 30)], none⟩, ⟨some 32, .buildSlice 123 2 [.t 31], none⟩, ⟨some 33, .append 123 2 24 (.t 18) (.t 32), none⟩, ⟨some 34, .fieldAddr 0 (.t 3), none⟩, ⟨none, .store false 1 (.t 34) (.t 33), none⟩] [1, 2, 3, 4]))
    (.region [⟨some 15, .mv (.t 4), none⟩, ⟨some 16, .arith .add .i64 (.t 15) (.con (.int .i64 1)), none⟩, ⟨some 4, .mv (.t 16), none⟩] [1, 2, 3, 4]))))))
  (.seq (.seq (.region [⟨some 5, .mv (.con (.int .i64 0)), none⟩] [1, 2, 3, 5])
  (.block 2 (.loop [1, 2, 3, 5] (.seq (.seq (.region [⟨some 35, .mv (.t 5), none⟩, ⟨some 36, .fieldAddr 1 (.t 1), none⟩, ⟨some 37, .load false 1 (.t 36), none⟩, ⟨some 38, .len (.t 37), none⟩, ⟨some 39, .cmp .lss (.t 35) (.t 38), none⟩] [1, 2, 3, 5, 39])
    (.cond (.t 39) .skip (.exit 2)))
    (.seq (.block 3 (.region [⟨some 42, .fieldAddr 1 (.t 3), none⟩, ⟨some 43, .load false 1 (.t 42), none⟩, ⟨some 44, .fieldAddr 1 (.t 1), none⟩, ⟨some 45, .load false 1 (.t 44), none⟩, ⟨some 46, .mv (.t 5), none⟩, ⟨some 47, .indexAddr 1 (.t 45) (.t 46), none⟩, ⟨some 48, .load false 1 (.t 47), none⟩, ⟨some 49, .call 0 21 [.t 48], none⟩, ⟨some 50, .buildSlice 24 1 [.t 49], none⟩, ⟨some 51, .append 24 1 24 (.t 43) (.t 50), none⟩, ⟨some 52, .fieldAddr 1 (.t 3), none⟩, ⟨none, .store false 1 (.t 52) (.t 51), none⟩] [1, 2, 3, 5]))
    (.region [⟨some 40, .mv (.t 5), none⟩, ⟨some 41, .arith .add .i64 (.t 40) (.con (.int .i64 1)), none⟩, ⟨some 5, .mv (.t 41), none⟩] [1, 2, 3, 5]))))))
  (.seq (.region [⟨some 53, .load true 3 (.t 3), none⟩, ⟨none, .store true 3 (.t 2) (.t 53), none⟩] [2])
  .ret)))))
def r19 : List Res := [.cell 2 true 3]

/-- palantype/palantypelaw04.Swaps -/
def v20 : Code :=
  (.seq (.region [⟨some 2, .newNil 109 3, none⟩] [0])
  (.seq (.region [⟨some 3, .newNil 109 3, none⟩] [0, 3])
  (.seq (.seq (.region [⟨some 4, .mv (.con (.int .i64 0)), none⟩] [0, 3, 4])
  (.block 0 (.loop [0, 3, 4] (.seq (.seq (.region [⟨some 5, .mv (.t 4), none⟩, ⟨some 6, .mv (.t 0), none⟩, ⟨some 7, .len (.t 6), none⟩, ⟨some 8, .cmp .lss (.t 5) (.t 7), none⟩] [0, 3, 4, 8])
    (.cond (.t 8) .skip (.exit 0)))
    (.seq (.block 1 (.region [⟨some 11, .mv (.t 3), none⟩, ⟨some 12, .mv (.t 0), none⟩, ⟨some 13, .mv (.t 4), none⟩, ⟨some 14, .indexAddr 3 (.t 12) (.t 13), none⟩, ⟨some 15, .fieldAddr 0 (.t 14), none⟩, ⟨some 16, .load false 1 (.t 15), none⟩, ⟨some 17, .mv (.t 0), none⟩, ⟨some 18, .mv (.t 4), none⟩, ⟨some 19, .indexAddr 3 (.t 17) (.t 18), none⟩, ⟨some 20, .fieldAddr 1 (.t 19), none⟩, ⟨some 21, .load false 1 (.t 20), none⟩, ⟨some 22, .mv (.t 0), none⟩, ⟨some 23, .mv (.t 4), none⟩, ⟨some 24, .indexAddr 3 (.t 22) (.t 23), none⟩, ⟨some 25, .fieldAddr 2 (.t 24), none⟩, ⟨some 26, .load false 1 (.t 25), none⟩, ⟨some 27, .build [.d (.int .u8 0), .d (.int .i64 0), .d (.int .i64 0)] [(0, 1, .t 16), (1, 1, .t 21), (2, 1, .t 26)], none⟩, ⟨some 28, .buildSlice 109 3 [.t 27], none⟩, ⟨some 29, .append 109 3 24 (.t 11) (.t 28), none⟩, ⟨some 3, .mv (.t 29), none⟩] [0, 3, 4]))
    (.region [⟨some 9, .mv (.t 4), none⟩, ⟨some 10, .arith .add .i64 (.t 9) (.con (.int .i64 1)), none⟩, ⟨some 4, .mv (.t 10), none⟩] [0, 3, 4]))))))
  (.seq (.region [⟨some 30, .mv (.t 3), none⟩, ⟨some 2, .mv (.t 30), none⟩] [2])
  .ret))))
def r20 : List Res := [.tmp 2]

/-- palantype/palantypelaw04.texts -/
def v21 : Code :=
  (.seq (.region [⟨some 2, .newNil 9 1, none⟩] [0])
  (.seq (.region [⟨some 3, .mv (.t 0), none⟩, ⟨some 4, .append 9 1 16 .nil (.t 3), none⟩, ⟨some 2, .mv (.t 4), none⟩] [2])
  .ret))
def r21 : List Res := [.tmp 2]

/-- palantype/palantypelaw04.fault -/
def v22 : Code :=
  (.seq (.region [⟨some 2, .box (.t 0), none⟩, ⟨some 4, .mv (.con (.int .i64 0)), none⟩] [1, 2])
  (.seq (.seq (.region [⟨some 6, .load true 3 (.t 2), none⟩, ⟨some 7, .call 1 34 [.t 6], none⟩, ⟨some 5, .mv (.t 7), none⟩] [1, 5])
  (.seq (.region [⟨some 8, .mv (.t 5), none⟩, ⟨some 9, .cmp .neq (.t 8) (.con (.int .i64 0)), none⟩] [1, 5, 9])
  (.cond (.t 9) (.seq (.region [⟨some 10, .mv (.t 5), none⟩, ⟨some 4, .mv (.t 10), none⟩] [4])
   .ret) .skip)))
  (.seq (.region [⟨some 11, .mv (.t 1), none⟩, ⟨some 12, .call 1 27 [.t 11], none⟩, ⟨some 4, .mv (.t 12), none⟩] [4])
  .ret)))
def r22 : List Res := [.tmp 4]

/-- palantype/palantypelaw04.listed -/
def v23 : Code :=
  (.seq (.region [⟨some 2, .mv (.con (.int .i64 0)), none⟩] [0])
  (.seq (.seq (.region [⟨some 3, .mv (.t 0), none⟩, ⟨some 4, .len (.t 3), none⟩, ⟨some 5, .cmp .gtr (.t 4) (.con (.int .i64 80)), none⟩] [0, 5])
  (.cond (.t 5) (.seq (.region [⟨some 2, .mv (.con (.int .i64 3)), none⟩] [2])
   .ret) .skip))
  (.seq (.seq (.region [⟨some 6, .mv (.t 0), none⟩, ⟨some 7, .call 1 55 [.t 6, .con (.int .i64 80)], none⟩, ⟨some 8, .not (.t 7), none⟩] [8])
  (.cond (.t 8) (.seq (.region [⟨some 2, .mv (.con (.int .i64 1)), none⟩] [2])
   .ret) .skip))
  (.seq (.region [⟨some 2, .mv (.con (.int .i64 0)), none⟩] [2])
  .ret))))
def r23 : List Res := [.tmp 2]

/-- palantype/palantyperef04.Sense -/
def v25 : Code :=
  (.seq (.region [⟨some 2, .box (.t 0), none⟩, ⟨some 4, .newNil 113 2, none⟩] [1, 2])
  (.seq (.region [⟨some 5, .newNil 113 2, none⟩] [1, 2, 5])
  (.seq (.seq (.region [⟨some 6, .mv (.con (.int .i64 0)), none⟩] [1, 2, 5, 6])
  (.block 0 (.loop [1, 2, 5, 6] (.seq (.seq (.region [⟨some 8, .mv (.t 6), none⟩, ⟨some 9, .mv (.t 1), none⟩, ⟨some 10, .len (.t 9), none⟩, ⟨some 11, .cmp .lss (.t 8) (.t 10), none⟩] [1, 2, 5, 6, 11])
    (.cond (.t 11) .skip (.exit 0)))
    (.seq (.block 1 (.seq (.region [⟨some 14, .load true 3 (.t 2), none⟩, ⟨some 15, .mv (.t 1), none⟩, ⟨some 16, .mv (.t 6), none⟩, ⟨some 17, .indexAddr 1 (.t 15) (.t 16), none⟩, ⟨some 18, .load false 1 (.t 17), none⟩, ⟨some 19, .call 1 57 [.t 14, .t 18], none⟩, ⟨some 7, .alloc [.d (.int .u8 0), .d (.int .i64 0)], none⟩, ⟨none, .store true 2 (.t 7) (.t 19), none⟩] [1, 2, 5, 6, 7])
     (.seq (.region [⟨some 20, .fieldAddr 0 (.t 7), none⟩, ⟨some 21, .load false 1 (.t 20), none⟩, ⟨some 22, .cmp .neq (.t 21) (.con (.int .u8 0)), none⟩] [1, 2, 5, 6, 7, 22])
     (.cond (.t 22) (.region [⟨some 23, .mv (.t 5), none⟩, ⟨some 24, .load true 2 (.t 7), none⟩, ⟨some 25, .buildSlice 113 2 [.t 24], none⟩, ⟨some 26, .append 113 2 16 (.t 23) (.t 25), none⟩, ⟨some 5, .mv (.t 26), none⟩] [1, 2, 5, 6]) .skip))))
    (.region [⟨some 12, .mv (.t 6), none⟩, ⟨some 13, .arith .add .i64 (.t 12) (.con (.int .i64 1)), none⟩, ⟨some 6, .mv (.t 13), none⟩] [1, 2, 5, 6]))))))
  (.seq (.region [⟨some 27, .mv (.t 5), none⟩, ⟨some 4, .mv (.t 27), none⟩] [4])
  .ret))))
def r25 : List Res := [.tmp 4]

/-- palantype/mend.Sense -/
def v26 : Code :=
  (.seq (.region [⟨some 2, .box (.t 0), none⟩, ⟨some 4, .newNil 79 2, none⟩, ⟨some 5, .mv (.con (.int .i64 0)), none⟩] [1, 2])
  (.seq (.region [⟨some 10, .load true 3 (.t 2), none⟩, ⟨some 11, .call 0 58 [.t 10], none⟩, ⟨some 9, .mv (.t 11), none⟩, ⟨some 12, .extract (.t 9) 0, none⟩, ⟨some 13, .extract (.t 9) 1, none⟩, ⟨some 6, .mv (.t 12), none⟩, ⟨some 7, .mv (.t 13), none⟩] [1, 6, 7])
  (.seq (.seq (.region [⟨some 14, .mv (.t 7), none⟩, ⟨some 15, .cmp .neq (.t 14) (.con (.int .i64 0)), none⟩] [1, 6, 7, 15])
  (.cond (.t 15) (.seq (.region [⟨some 16, .mv (.t 7), none⟩, ⟨some 4, .newNil 79 2, none⟩, ⟨some 5, .mv (.t 16), none⟩] [4, 5])
   .ret) .skip))
  (.seq (.seq (.region [⟨some 17, .mv (.t 1), none⟩, ⟨some 18, .buildSlice 24 1 [.t 17], none⟩, ⟨some 19, .call 1 52 [.t 18], none⟩, ⟨some 8, .mv (.t 19), none⟩] [1, 6, 8])
  (.seq (.region [⟨some 20, .mv (.t 8), none⟩, ⟨some 21, .cmp .neq (.t 20) (.con (.int .i64 0)), none⟩] [1, 6, 8, 21])
  (.cond (.t 21) (.seq (.region [⟨some 22, .mv (.t 8), none⟩, ⟨some 4, .newNil 79 2, none⟩, ⟨some 5, .mv (.t 22), none⟩] [4, 5])
   .ret) .skip)))
  (.seq (.region [⟨some 23, .mv (.t 6), none⟩, ⟨some 24, .mv (.t 1), none⟩, ⟨some 25, .call 0 54 [.t 23, .t 24], none⟩, ⟨some 4, .mv (.t 25), none⟩, ⟨some 5, .mv (.con (.int .i64 0)), none⟩] [4, 5])
  .ret)))))
def r26 : List Res := [.tmp 4, .tmp 5]

/-- palantype/palantyperef04.SwapsFault -/
def v27 : Code :=
  (.seq (.region [⟨some 2, .mv (.con (.int .i64 0)), none⟩] [0])
  (.seq (.seq (.region [⟨some 4, .mv (.t 0), none⟩, ⟨some 5, .len (.t 4), none⟩, ⟨some 6, .cmp .gtr (.t 5) (.con (.int .i64 20)), none⟩] [0, 6])
  (.cond (.t 6) (.seq (.region [⟨some 2, .mv (.con (.int .i64 3)), none⟩] [2])
   .ret) .skip))
  (.seq (.seq (.region [⟨some 3, .mv (.con (.int .i64 0)), none⟩] [0, 3])
  (.block 0 (.loop [0, 3] (.seq (.seq (.region [⟨some 7, .mv (.t 3), none⟩, ⟨some 8, .mv (.t 0), none⟩, ⟨some 9, .len (.t 8), none⟩, ⟨some 10, .cmp .lss (.t 7) (.t 9), none⟩] [0, 3, 10])
    (.cond (.t 10) .skip (.exit 0)))
    (.seq (.block 1 (.seq (.region [⟨some 13, .mv (.t 0), none⟩, ⟨some 14, .mv (.t 3), none⟩, ⟨some 15, .indexAddr 3 (.t 13) (.t 14), none⟩, ⟨some 16, .fieldAddr 0 (.t 15), none⟩, ⟨some 17, .load false 1 (.t 16), none⟩, ⟨some 18, .cmp .neq (.t 17) (.con (.int .u8 1)), none⟩, ⟨some 19, .mv (.t 18), none⟩, ⟨some 20, .mv (.t 0), some (19, true)⟩, ⟨some 21, .mv (.t 3), some (19, true)⟩, ⟨some 22, .indexAddr 3 (.t 20) (.t 21), some (19, true)⟩, ⟨some 23, .fieldAddr 0 (.t 22), some (19, true)⟩, ⟨some 24, .load false 1 (.t 23), some (19, true)⟩, ⟨some 25, .cmp .neq (.t 24) (.con (.int .u8 2)), some (19, true)⟩, ⟨some 26, .pick (.t 19) (.t 25) (.con (.bool false)), none⟩, ⟨some 27, .mv (.t 26), none⟩, ⟨some 28, .mv (.t 0), some (27, false)⟩, ⟨some 29, .mv (.t 3), some (27, false)⟩, ⟨some 30, .indexAddr 3 (.t 28) (.t 29), some (27, false)⟩, ⟨some 31, .fieldAddr 1 (.t 30), some (27, false)⟩, ⟨some 32, .load false 1 (.t 31), some (27, false)⟩, ⟨some 33, .call 1 28 [.t 32, .con (.int .i64 0), .con (.int .i64 999999999)], some (27, false)⟩, ⟨some 34, .not (.t 33), some (27, false)⟩, ⟨some 35, .pick (.t 27) (.con (.bool true)) (.t 34), none⟩, ⟨some 36, .mv (.t 35), none⟩, ⟨some 37, .mv (.t 0), some (36, false)⟩, ⟨some 38, .mv (.t 3), some (36, false)⟩, ⟨some 39, .indexAddr 3 (.t 37) (.t 38), some (36, false)⟩, ⟨some 40, .fieldAddr 2 (.t 39), some (36, false)⟩, ⟨some 41, .load false 1 (.t 40), some (36, false)⟩, ⟨some 42, .call 1 28 [.t 41, .con (.int .i64 0), .con (.int .i64 999999999)], some (36, false)⟩, ⟨some 43, .not (.t 42), some (36, false)⟩, ⟨some 44, .pick (.t 36) (.con (.bool true)) (.t 43), none⟩] [0, 3, 44])
     (.cond (.t 44) (.seq (.region [⟨some 2, .mv (.con (.int .i64 1)), none⟩] [2])
      .ret) .skip)))
    (.region [⟨some 11, .mv (.t 3), none⟩, ⟨some 12, .arith .add .i64 (.t 11) (.con (.int .i64 1)), none⟩, ⟨some 3, .mv (.t 12), none⟩] [0, 3]))))))
  (.seq (.region [⟨some 2, .mv (.con (.int .i64 0)), none⟩] [2])
  .ret))))
def r27 : List Res := [.tmp 2]

/-- palantype/palantyperef04.In -/
def v28 : Code :=
  (.seq (.region [⟨some 6, .mv (.con (.bool false)), none⟩] [0, 1, 2])
  (.seq (.region [⟨some 7, .mv (.t 0), none⟩, ⟨some 8, .mv (.t 1), none⟩, ⟨some 9, .cmp .geq (.t 7) (.t 8), none⟩, ⟨some 10, .mv (.t 9), none⟩, ⟨some 11, .mv (.t 0), some (10, true)⟩, ⟨some 12, .mv (.t 2), some (10, true)⟩, ⟨some 13, .cmp .leq (.t 11) (.t 12), some (10, true)⟩, ⟨some 14, .pick (.t 10) (.t 13) (.con (.bool false)), none⟩, ⟨some 6, .mv (.t 14), none⟩] [6])
  .ret))
def r28 : List Res := [.tmp 6]

/-- palantype/mend.Decide -/
def v29 : Code :=
  (.seq (.region [⟨some 4, .box (.t 0), none⟩, ⟨some 6, .box (.t 2), none⟩, ⟨some 8, .newNil 31 1, none⟩, ⟨some 9, .mv (.con (.int .i64 0)), none⟩] [1, 3, 4, 6])
  (.seq (.region [⟨some 13, .load true 3 (.t 4), none⟩, ⟨some 14, .mv (.t 1), none⟩, ⟨some 15, .load true 3 (.t 6), none⟩, ⟨some 16, .mv (.t 3), none⟩, ⟨some 17, .call 0 59 [.t 13, .t 14, .t 15, .t 16], none⟩, ⟨some 12, .mv (.t 17), none⟩, ⟨some 18, .extract (.t 12) 0, none⟩, ⟨some 19, .extract (.t 12) 1, none⟩, ⟨some 10, .mv (.t 18), none⟩, ⟨some 11, .mv (.t 19), none⟩] [10, 11])
  (.seq (.seq (.region [⟨some 20, .mv (.t 11), none⟩, ⟨some 21, .cmp .neq (.t 20) (.con (.int .i64 0)), none⟩] [10, 11, 21])
  (.cond (.t 21) (.seq (.region [⟨some 22, .mv (.t 11), none⟩, ⟨some 8, .newNil 31 1, none⟩, ⟨some 9, .mv (.t 22), none⟩] [8, 9])
   .ret) .skip))
  (.seq (.region [⟨some 23, .mv (.t 10), none⟩, ⟨some 24, .nilCheck (.t 23), none⟩, ⟨some 25, .fieldAddr 7 (.t 24), none⟩, ⟨some 26, .load false 1 (.t 25), none⟩, ⟨some 8, .mv (.t 26), none⟩, ⟨some 9, .mv (.con (.int .i64 0)), none⟩] [8, 9])
  .ret))))
def r29 : List Res := [.tmp 8, .tmp 9]

/-- palantype/palantypelaw04.ready -/
def v30 : Code :=
  (.seq (.region [⟨some 4, .box (.t 0), none⟩, ⟨some 6, .box (.t 2), none⟩, ⟨some 8, .mv (.con (.bool false)), none⟩] [1, 3, 4, 6])
  (.seq (.region [⟨some 9, .load true 3 (.t 4), none⟩, ⟨some 10, .mv (.t 1), none⟩, ⟨some 11, .call 1 15 [.t 9, .t 10], none⟩, ⟨some 12, .mv (.t 11), none⟩, ⟨some 13, .load true 3 (.t 6), some (12, true)⟩, ⟨some 14, .mv (.t 3), some (12, true)⟩, ⟨some 15, .call 1 35 [.t 13, .t 14], some (12, true)⟩, ⟨some 16, .pick (.t 12) (.t 15) (.con (.bool false)), none⟩, ⟨some 17, .mv (.t 16), none⟩, ⟨some 18, .load true 3 (.t 4), some (17, true)⟩, ⟨some 19, .mv (.t 1), some (17, true)⟩, ⟨some 20, .load true 3 (.t 6), some (17, true)⟩, ⟨some 21, .mv (.t 3), some (17, true)⟩, ⟨some 22, .call 1 38 [.t 18, .t 19, .t 20, .t 21], some (17, true)⟩, ⟨some 23, .cmp .eql (.t 22) (.con (.int .i64 0)), some (17, true)⟩, ⟨some 24, .pick (.t 17) (.t 23) (.con (.bool false)), none⟩, ⟨some 8, .mv (.t 24), none⟩] [8])
  .ret))
def r30 : List Res := [.tmp 8]

/-- palantype/palantypelaw04.Report -/
def v31 : Code :=
  (.seq (.region [⟨some 1, .box (.t 0), none⟩, ⟨some 2, .alloc [.nil 58 2, .d (.int .i64 0), .d (.int .i64 0)], none⟩] [1, 2])
  (.seq (.region [⟨some 5, .fieldAddr 1 (.t 1), none⟩, ⟨some 6, .load false 1 (.t 5), none⟩, ⟨some 7, .fieldAddr 2 (.t 1), none⟩, ⟨some 8, .load false 1 (.t 7), none⟩, ⟨some 9, .build [.nil 58 2, .d (.int .i64 0), .d (.int .i64 0)] [(1, 1, .t 6), (2, 1, .t 8)], none⟩, ⟨some 3, .alloc [.nil 58 2, .d (.int .i64 0), .d (.int .i64 0)], none⟩, ⟨none, .store true 3 (.t 3) (.t 9), none⟩] [1, 2, 3])
  (.seq (.seq (.region [⟨some 4, .mv (.con (.int .i64 0)), none⟩] [1, 2, 3, 4])
  (.block 0 (.loop [1, 2, 3, 4] (.seq (.seq (.region [⟨some 10, .mv (.t 4), none⟩, ⟨some 11, .fieldAddr 0 (.t 1), none⟩, ⟨some 12, .load false 1 (.t 11), none⟩, ⟨some 13, .len (.t 12), none⟩, ⟨some 14, .cmp .lss (.t 10) (.t 13), none⟩] [1, 2, 3, 4, 14])
    (.cond (.t 14) .skip (.exit 0)))
    (.seq (.block 1 (.region [⟨some 17, .fieldAddr 0 (.t 3), none⟩, ⟨some 18, .load false 1 (.t 17), none⟩, ⟨some 19, .fieldAddr 0 (.t 1), none⟩, ⟨some 20, .load false 1 (.t 19), none⟩, ⟨some 21, .mv (.t 4), none⟩, ⟨some 22, .indexAddr 2 (.t 20) (.t 21), none⟩, ⟨some 23, .fieldAddr 0 (.t 22), none⟩, ⟨some 24, .load false 1 (.t 23), none⟩, ⟨some 25, .fieldAddr 0 (.t 1), none⟩, ⟨some 26, .load false 1 (.t 25), none⟩, ⟨some 27, .mv (.t 4), none⟩, ⟨some 28, .indexAddr 2 (.t 26) (.t 27), none⟩, ⟨some 29, .fieldAddr 1 (.t 28), none⟩, ⟨some 30, .load false 1 (.t 29), none⟩, ⟨some 31, .build [.d (.str ⟨#[]⟩), .d (.int .i64 0)] [(0, 1, .t 24), (1, 1, .t 30)], none⟩, ⟨some 32, .buildSlice 58 2 [.t 31], none⟩, ⟨some 33, .append 58 2 24 (.t 18) (.t 32), none⟩, ⟨some 34, .fieldAddr 0 (.t 3), none⟩, ⟨none, .store false 1 (.t 34) (.t 33), none⟩] [1, 2, 3, 4]))
    (.region [⟨some 15, .mv (.t 4), none⟩, ⟨some 16, .arith .add .i64 (.t 15) (.con (.int .i64 1)), none⟩, ⟨some 4, .mv (.t 16), none⟩] [1, 2, 3, 4]))))))
  (.seq (.region [⟨some 35, .load true 3 (.t 3), none⟩, ⟨none, .store true 3 (.t 2) (.t 35), none⟩] [2])
  .ret))))
def r31 : List Res := [.cell 2 true 3]

/-- palantype/palantypelaw04.Requests -/
def v32 : Code :=
  (.seq (.region [⟨some 2, .newNil 63 5, none⟩] [0])
  (.seq (.region [⟨some 3, .newNil 63 5, none⟩] [0, 3])
  (.seq (.seq (.region [⟨some 4, .mv (.con (.int .i64 0)), none⟩] [0, 3, 4])
  (.block 0 (.loop [0, 3, 4] (.seq (.seq (.region [⟨some 6, .mv (.t 4), none⟩, ⟨some 7, .mv (.t 0), none⟩, ⟨some 8, .len (.t 7), none⟩, ⟨some 9, .cmp .lss (.t 6) (.t 8), none⟩] [0, 3, 4, 9])
    (.cond (.t 9) .skip (.exit 0)))
    (.seq (.block 1 (.seq (.region [⟨some 12, .mv (.t 0), none⟩, ⟨some 13, .mv (.t 4), none⟩, ⟨some 14, .indexAddr 5 (.t 12) (.t 13), none⟩, ⟨some 15, .load true 5 (.t 14), none⟩, ⟨some 5, .alloc [.d (.int .i64 0), .d (.int .i64 0), .d (.int .i64 0), .d (.int .i64 0), .nil 9 1], none⟩, ⟨none, .store true 5 (.t 5) (.t 15), none⟩] [0, 3, 4, 5])
     (.region [⟨some 16, .mv (.t 3), none⟩, ⟨some 17, .fieldAddr 0 (.t 5), none⟩, ⟨some 18, .load false 1 (.t 17), none⟩, ⟨some 19, .fieldAddr 1 (.t 5), none⟩, ⟨some 20, .load false 1 (.t 19), none⟩, ⟨some 21, .fieldAddr 2 (.t 5), none⟩, ⟨some 22, .load false 1 (.t 21), none⟩, ⟨some 23, .fieldAddr 3 (.t 5), none⟩, ⟨some 24, .load false 1 (.t 23), none⟩, ⟨some 25, .fieldAddr 4 (.t 5), none⟩, ⟨some 26, .load false 1 (.t 25), none⟩, ⟨some 27, .call 0 21 [.t 26], none⟩, ⟨some 28, .build [.d (.int .i64 0), .d (.int .i64 0), .d (.int .i64 0), .d (.int .i64 0), .d (.row 0 [])] [(0, 1, .t 18), (1, 1, .t 20), (2, 1, .t 22), (3, 1, .t 24), (4, 1, .t 27)], none⟩, ⟨some 29, .buildSlice 63 5 [.t 28], none⟩, ⟨some 30, .append 63 5 56 (.t 16) (.t 29), none⟩, ⟨some 3, .mv (.t 30), none⟩] [0, 3, 4])))
    (.region [⟨some 10, .mv (.t 4), none⟩, ⟨some 11, .arith .add .i64 (.t 10) (.con (.int .i64 1)), none⟩, ⟨some 4, .mv (.t 11), none⟩] [0, 3, 4]))))))
  (.seq (.region [⟨some 31, .mv (.t 3), none⟩, ⟨some 2, .mv (.t 31), none⟩] [2])
  .ret))))
def r32 : List Res := [.tmp 2]

/-- palantype/palantyperef04.Meet -/
def v33 : Code :=
  (.seq (.region [⟨some 2, .box (.t 0), none⟩, ⟨some 3, .box (.t 1), none⟩, ⟨some 4, .mv (.con (.bool false)), none⟩] [2, 3])
  (.seq (.region [⟨some 7, .fieldAddr 2 (.t 2), none⟩, ⟨some 8, .load false 1 (.t 7), none⟩, ⟨some 9, .fieldAddr 3 (.t 2), none⟩, ⟨some 10, .load false 1 (.t 9), none⟩, ⟨some 11, .arith .add .i64 (.t 8) (.t 10), none⟩, ⟨some 12, .fieldAddr 2 (.t 3), none⟩, ⟨some 13, .load false 1 (.t 12), none⟩, ⟨some 14, .fieldAddr 3 (.t 3), none⟩, ⟨some 15, .load false 1 (.t 14), none⟩, ⟨some 16, .arith .add .i64 (.t 13) (.t 15), none⟩, ⟨some 5, .mv (.t 11), none⟩, ⟨some 6, .mv (.t 16), none⟩] [2, 3, 5, 6])
  (.seq (.seq (.region [⟨some 17, .fieldAddr 3 (.t 2), none⟩, ⟨some 18, .load false 1 (.t 17), none⟩, ⟨some 19, .cmp .eql (.t 18) (.con (.int .i64 0)), none⟩, ⟨some 20, .mv (.t 19), none⟩, ⟨some 21, .fieldAddr 3 (.t 3), some (20, true)⟩, ⟨some 22, .load false 1 (.t 21), some (20, true)⟩, ⟨some 23, .cmp .eql (.t 22) (.con (.int .i64 0)), some (20, true)⟩, ⟨some 24, .pick (.t 20) (.t 23) (.con (.bool false)), none⟩] [2, 3, 5, 6, 24])
  (.cond (.t 24) (.seq (.region [⟨some 25, .fieldAddr 2 (.t 2), none⟩, ⟨some 26, .load false 1 (.t 25), none⟩, ⟨some 27, .fieldAddr 2 (.t 3), none⟩, ⟨some 28, .load false 1 (.t 27), none⟩, ⟨some 29, .cmp .eql (.t 26) (.t 28), none⟩, ⟨some 4, .mv (.t 29), none⟩] [4])
   .ret) .skip))
  (.seq (.seq (.region [⟨some 30, .fieldAddr 3 (.t 2), none⟩, ⟨some 31, .load false 1 (.t 30), none⟩, ⟨some 32, .cmp .eql (.t 31) (.con (.int .i64 0)), none⟩] [2, 3, 5, 6, 32])
  (.cond (.t 32) (.seq (.region [⟨some 33, .fieldAddr 2 (.t 2), none⟩, ⟨some 34, .load false 1 (.t 33), none⟩, ⟨some 35, .fieldAddr 2 (.t 3), none⟩, ⟨some 36, .load false 1 (.t 35), none⟩, ⟨some 37, .cmp .gtr (.t 34) (.t 36), none⟩, ⟨some 38, .mv (.t 37), none⟩, ⟨some 39, .fieldAddr 2 (.t 2), some (38, true)⟩, ⟨some 40, .load false 1 (.t 39), some (38, true)⟩, ⟨some 41, .mv (.t 6), some (38, true)⟩, ⟨some 42, .cmp .lss (.t 40) (.t 41), some (38, true)⟩, ⟨some 43, .pick (.t 38) (.t 42) (.con (.bool false)), none⟩, ⟨some 4, .mv (.t 43), none⟩] [4])
   .ret) .skip))
  (.seq (.seq (.region [⟨some 44, .fieldAddr 3 (.t 3), none⟩, ⟨some 45, .load false 1 (.t 44), none⟩, ⟨some 46, .cmp .eql (.t 45) (.con (.int .i64 0)), none⟩] [2, 3, 5, 6, 46])
  (.cond (.t 46) (.seq (.region [⟨some 47, .fieldAddr 2 (.t 3), none⟩, ⟨some 48, .load false 1 (.t 47), none⟩, ⟨some 49, .fieldAddr 2 (.t 2), none⟩, ⟨some 50, .load false 1 (.t 49), none⟩, ⟨some 51, .cmp .gtr (.t 48) (.t 50), none⟩, ⟨some 52, .mv (.t 51), none⟩, ⟨some 53, .fieldAddr 2 (.t 3), some (52, true)⟩, ⟨some 54, .load false 1 (.t 53), some (52, true)⟩, ⟨some 55, .mv (.t 5), some (52, true)⟩, ⟨some 56, .cmp .lss (.t 54) (.t 55), some (52, true)⟩, ⟨some 57, .pick (.t 52) (.t 56) (.con (.bool false)), none⟩, ⟨some 4, .mv (.t 57), none⟩] [4])
   .ret) .skip))
  (.seq (.region [⟨some 58, .fieldAddr 2 (.t 2), none⟩, ⟨some 59, .load false 1 (.t 58), none⟩, ⟨some 60, .mv (.t 6), none⟩, ⟨some 61, .cmp .lss (.t 59) (.t 60), none⟩, ⟨some 62, .mv (.t 61), none⟩, ⟨some 63, .fieldAddr 2 (.t 3), some (62, true)⟩, ⟨some 64, .load false 1 (.t 63), some (62, true)⟩, ⟨some 65, .mv (.t 5), some (62, true)⟩, ⟨some 66, .cmp .lss (.t 64) (.t 65), some (62, true)⟩, ⟨some 67, .pick (.t 62) (.t 66) (.con (.bool false)), none⟩, ⟨some 4, .mv (.t 67), none⟩] [4])
  .ret))))))
def r33 : List Res := [.tmp 4]

/-- palantype/palantyperef04.LexiconFault -/
def v34 : Code :=
  (.seq (.region [⟨some 1, .box (.t 0), none⟩, ⟨some 2, .mv (.con (.int .i64 0)), none⟩] [1])
  (.seq (.region [⟨some 3, .newNil 9 1, none⟩] [1, 3])
  (.seq (.seq (.region [⟨some 4, .mv (.con (.int .i64 0)), none⟩] [1, 3, 4])
  (.block 0 (.loop [1, 3, 4] (.seq (.seq (.region [⟨some 8, .mv (.t 4), none⟩, ⟨some 9, .fieldAddr 0 (.t 1), none⟩, ⟨some 10, .load false 1 (.t 9), none⟩, ⟨some 11, .len (.t 10), none⟩, ⟨some 12, .cmp .lss (.t 8) (.t 11), none⟩] [1, 3, 4, 12])
    (.cond (.t 12) .skip (.exit 0)))
    (.seq (.block 1 (.seq (.seq (.region [⟨some 15, .fieldAddr 0 (.t 1), none⟩, ⟨some 16, .load false 1 (.t 15), none⟩, ⟨some 17, .mv (.t 4), none⟩, ⟨some 18, .indexAddr 2 (.t 16) (.t 17), none⟩, ⟨some 19, .fieldAddr 0 (.t 18), none⟩, ⟨some 20, .load false 1 (.t 19), none⟩, ⟨some 21, .call 1 60 [.t 20], none⟩, ⟨some 22, .not (.t 21), none⟩, ⟨some 23, .mv (.t 22), none⟩, ⟨some 24, .fieldAddr 0 (.t 1), some (23, false)⟩, ⟨some 25, .load false 1 (.t 24), some (23, false)⟩, ⟨some 26, .mv (.t 4), some (23, false)⟩, ⟨some 27, .indexAddr 2 (.t 25) (.t 26), some (23, false)⟩, ⟨some 28, .fieldAddr 1 (.t 27), some (23, false)⟩, ⟨some 29, .load false 1 (.t 28), some (23, false)⟩, ⟨some 30, .call 1 28 [.t 29, .con (.int .i64 0), .con (.int .i64 999999999)], some (23, false)⟩, ⟨some 31, .not (.t 30), some (23, false)⟩, ⟨some 32, .pick (.t 23) (.con (.bool true)) (.t 31), none⟩] [1, 3, 4, 32])
     (.cond (.t 32) (.seq (.region [⟨some 2, .mv (.con (.int .i64 1)), none⟩] [2])
      .ret) .skip))
     (.region [⟨some 33, .mv (.t 3), none⟩, ⟨some 34, .fieldAddr 0 (.t 1), none⟩, ⟨some 35, .load false 1 (.t 34), none⟩, ⟨some 36, .mv (.t 4), none⟩, ⟨some 37, .indexAddr 2 (.t 35) (.t 36), none⟩, ⟨some 38, .fieldAddr 0 (.t 37), none⟩, ⟨some 39, .load false 1 (.t 38), none⟩, ⟨some 40, .buildSlice 9 1 [.t 39], none⟩, ⟨some 41, .append 9 1 16 (.t 33) (.t 40), none⟩, ⟨some 3, .mv (.t 41), none⟩] [1, 3, 4])))
    (.region [⟨some 13, .mv (.t 4), none⟩, ⟨some 14, .arith .add .i64 (.t 13) (.con (.int .i64 1)), none⟩, ⟨some 4, .mv (.t 14), none⟩] [1, 3, 4]))))))
  (.seq (.seq (.region [⟨some 5, .mv (.con (.int .i64 0)), none⟩] [1, 3, 5])
  (.block 2 (.loop [1, 3, 5] (.seq (.seq (.region [⟨some 42, .mv (.t 5), none⟩, ⟨some 43, .fieldAddr 1 (.t 1), none⟩, ⟨some 44, .load false 1 (.t 43), none⟩, ⟨some 45, .len (.t 44), none⟩, ⟨some 46, .cmp .lss (.t 42) (.t 45), none⟩] [1, 3, 5, 46])
    (.cond (.t 46) .skip (.exit 2)))
    (.seq (.block 3 (.seq (.seq (.region [⟨some 49, .fieldAddr 1 (.t 1), none⟩, ⟨some 50, .load false 1 (.t 49), none⟩, ⟨some 51, .mv (.t 5), none⟩, ⟨some 52, .indexAddr 1 (.t 50) (.t 51), none⟩, ⟨some 53, .load false 1 (.t 52), none⟩, ⟨some 54, .len (.t 53), none⟩, ⟨some 55, .cmp .eql (.t 54) (.con (.int .i64 0)), none⟩, ⟨some 56, .mv (.t 55), none⟩, ⟨some 57, .fieldAddr 1 (.t 1), some (56, false)⟩, ⟨some 58, .load false 1 (.t 57), some (56, false)⟩, ⟨some 59, .mv (.t 5), some (56, false)⟩, ⟨some 60, .indexAddr 1 (.t 58) (.t 59), some (56, false)⟩, ⟨some 61, .load false 1 (.t 60), some (56, false)⟩, ⟨some 62, .call 1 55 [.t 61, .con (.int .i64 5)], some (56, false)⟩, ⟨some 63, .not (.t 62), some (56, false)⟩, ⟨some 64, .pick (.t 56) (.con (.bool true)) (.t 63), none⟩] [1, 3, 5, 64])
     (.cond (.t 64) (.seq (.region [⟨some 2, .mv (.con (.int .i64 1)), none⟩] [2])
      .ret) .skip))
     (.region [⟨some 65, .mv (.t 3), none⟩, ⟨some 66, .fieldAddr 1 (.t 1), none⟩, ⟨some 67, .load false 1 (.t 66), none⟩, ⟨some 68, .mv (.t 5), none⟩, ⟨some 69, .indexAddr 1 (.t 67) (.t 68), none⟩, ⟨some 70, .load false 1 (.t 69), none⟩, ⟨some 71, .append 9 1 16 (.t 65) (.t 70), none⟩, ⟨some 3, .mv (.t 71), none⟩] [1, 3, 5])))
    (.region [⟨some 47, .mv (.t 5), none⟩, ⟨some 48, .arith .add .i64 (.t 47) (.con (.int .i64 1)), none⟩, ⟨some 5, .mv (.t 48), none⟩] [1, 3, 5]))))))
  (.seq (.seq (.region [⟨some 72, .fieldAddr 2 (.t 1), none⟩, ⟨some 73, .load false 1 (.t 72), none⟩, ⟨some 74, .call 1 55 [.t 73, .con (.int .i64 40)], none⟩, ⟨some 75, .not (.t 74), none⟩, ⟨some 76, .mv (.t 75), none⟩, ⟨some 77, .fieldAddr 0 (.t 1), some (76, false)⟩, ⟨some 78, .load false 1 (.t 77), some (76, false)⟩, ⟨some 79, .len (.t 78), some (76, false)⟩, ⟨some 80, .cmp .gtr (.t 79) (.con (.int .i64 40)), some (76, false)⟩, ⟨some 81, .pick (.t 76) (.con (.bool true)) (.t 80), none⟩, ⟨some 82, .mv (.t 81), none⟩, ⟨some 83, .fieldAddr 1 (.t 1), some (82, false)⟩, ⟨some 84, .load false 1 (.t 83), some (82, false)⟩, ⟨some 85, .len (.t 84), some (82, false)⟩, ⟨some 86, .cmp .gtr (.t 85) (.con (.int .i64 40)), some (82, false)⟩, ⟨some 87, .pick (.t 82) (.con (.bool true)) (.t 86), none⟩] [1, 3, 87])
  (.cond (.t 87) (.seq (.region [⟨some 2, .mv (.con (.int .i64 1)), none⟩] [2])
   .ret) .skip))
  (.seq (.region [⟨some 88, .mv (.t 3), none⟩, ⟨some 89, .fieldAddr 2 (.t 1), none⟩, ⟨some 90, .load false 1 (.t 89), none⟩, ⟨some 91, .append 9 1 16 (.t 88) (.t 90), none⟩, ⟨some 3, .mv (.t 91), none⟩] [3])
  (.seq (.seq (.region [⟨some 6, .mv (.con (.int .i64 0)), none⟩] [3, 6])
  (.block 4 (.loop [3, 6] (.seq (.seq (.region [⟨some 92, .mv (.t 6), none⟩, ⟨some 93, .mv (.t 3), none⟩, ⟨some 94, .len (.t 93), none⟩, ⟨some 95, .cmp .lss (.t 92) (.t 94), none⟩] [3, 6, 95])
    (.cond (.t 95) .skip (.exit 4)))
    (.seq (.block 5 (.seq (.region [⟨some 7, .mv (.con (.int .i64 0)), none⟩] [3, 6, 7])
     (.block 6 (.loop [3, 6, 7] (.seq (.seq (.region [⟨some 98, .mv (.t 7), none⟩, ⟨some 99, .mv (.t 6), none⟩, ⟨some 100, .cmp .lss (.t 98) (.t 99), none⟩] [3, 6, 7, 100])
       (.cond (.t 100) .skip (.exit 6)))
       (.seq (.block 7 (.seq (.region [⟨some 103, .mv (.t 3), none⟩, ⟨some 104, .mv (.t 6), none⟩, ⟨some 105, .indexAddr 1 (.t 103) (.t 104), none⟩, ⟨some 106, .load false 1 (.t 105), none⟩, ⟨some 107, .mv (.t 3), none⟩, ⟨some 108, .mv (.t 7), none⟩, ⟨some 109, .indexAddr 1 (.t 107) (.t 108), none⟩, ⟨some 110, .load false 1 (.t 109), none⟩, ⟨some 111, .strOp .eql (.t 106) (.t 110), none⟩] [3, 6, 7, 111])
        (.cond (.t 111) (.seq (.region [⟨some 2, .mv (.con (.int .i64 6)), none⟩] [2])
         .ret) .skip)))
       (.region [⟨some 101, .mv (.t 7), none⟩, ⟨some 102, .arith .add .i64 (.t 101) (.con (.int .i64 1)), none⟩, ⟨some 7, .mv (.t 102), none⟩] [3, 6, 7])))))))
    (.region [⟨some 96, .mv (.t 6), none⟩, ⟨some 97, .arith .add .i64 (.t 96) (.con (.int .i64 1)), none⟩, ⟨some 6, .mv (.t 97), none⟩] [3, 6]))))))
  (.seq (.region [⟨some 2, .mv (.con (.int .i64 0)), none⟩] [2])
  .ret))))))))
def r34 : List Res := [.tmp 2]

/-- palantype/palantypelaw04.Few -/
def v35 : Code :=
  (.seq (.region [⟨some 2, .box (.t 0), none⟩, ⟨some 4, .mv (.con (.bool false)), none⟩] [1, 2])
  (.seq (.seq (.region [⟨some 5, .mv (.con (.int .i64 0)), none⟩] [1, 2, 5])
  (.block 0 (.loop [1, 2, 5] (.seq (.seq (.region [⟨some 7, .mv (.t 5), none⟩, ⟨some 8, .fieldAddr 0 (.t 2), none⟩, ⟨some 9, .load false 1 (.t 8), none⟩, ⟨some 10, .len (.t 9), none⟩, ⟨some 11, .cmp .lss (.t 7) (.t 10), none⟩, ⟨some 12, .mv (.t 11), none⟩, ⟨some 13, .mv (.t 5), some (12, true)⟩, ⟨some 14, .cmp .lss (.t 13) (.con (.int .i64 86)), some (12, true)⟩, ⟨some 15, .pick (.t 12) (.t 14) (.con (.bool false)), none⟩] [1, 2, 5, 15])
    (.cond (.t 15) .skip (.exit 0)))
    (.seq (.block 1 (.seq (.region [⟨some 18, .fieldAddr 0 (.t 2), none⟩, ⟨some 19, .load false 1 (.t 18), none⟩, ⟨some 20, .mv (.t 5), none⟩, ⟨some 21, .indexAddr 2 (.t 19) (.t 20), none⟩, ⟨some 22, .fieldAddr 0 (.t 21), none⟩, ⟨some 23, .load false 1 (.t 22), none⟩, ⟨some 24, .lenStr (.t 23), none⟩, ⟨some 25, .cmp .gtr (.t 24) (.con (.int .i64 40)), none⟩] [1, 2, 5, 25])
     (.cond (.t 25) (.seq (.region [⟨some 4, .mv (.con (.bool false)), none⟩] [4])
      .ret) .skip)))
    (.region [⟨some 16, .mv (.t 5), none⟩, ⟨some 17, .arith .add .i64 (.t 16) (.con (.int .i64 1)), none⟩, ⟨some 5, .mv (.t 17), none⟩] [1, 2, 5]))))))
  (.seq (.seq (.region [⟨some 6, .mv (.con (.int .i64 0)), none⟩] [1, 2, 6])
  (.block 2 (.loop [1, 2, 6] (.seq (.seq (.region [⟨some 26, .mv (.t 6), none⟩, ⟨some 27, .mv (.t 1), none⟩, ⟨some 28, .len (.t 27), none⟩, ⟨some 29, .cmp .lss (.t 26) (.t 28), none⟩, ⟨some 30, .mv (.t 29), none⟩, ⟨some 31, .mv (.t 6), some (30, true)⟩, ⟨some 32, .cmp .lss (.t 31) (.con (.int .i64 26)), some (30, true)⟩, ⟨some 33, .pick (.t 30) (.t 32) (.con (.bool false)), none⟩] [1, 2, 6, 33])
    (.cond (.t 33) .skip (.exit 2)))
    (.seq (.block 3 (.seq (.region [⟨some 36, .mv (.t 1), none⟩, ⟨some 37, .mv (.t 6), none⟩, ⟨some 38, .indexAddr 5 (.t 36) (.t 37), none⟩, ⟨some 39, .fieldAddr 4 (.t 38), none⟩, ⟨some 40, .load false 1 (.t 39), none⟩, ⟨some 41, .call 1 16 [.t 40, .con (.int .i64 12)], none⟩, ⟨some 42, .not (.t 41), none⟩] [1, 2, 6, 42])
     (.cond (.t 42) (.seq (.region [⟨some 4, .mv (.con (.bool false)), none⟩] [4])
      .ret) .skip)))
    (.region [⟨some 34, .mv (.t 6), none⟩, ⟨some 35, .arith .add .i64 (.t 34) (.con (.int .i64 1)), none⟩, ⟨some 6, .mv (.t 35), none⟩] [1, 2, 6]))))))
  (.seq (.region [⟨some 43, .fieldAddr 0 (.t 2), none⟩, ⟨some 44, .load false 1 (.t 43), none⟩, ⟨some 45, .len (.t 44), none⟩, ⟨some 46, .cmp .leq (.t 45) (.con (.int .i64 85)), none⟩, ⟨some 47, .mv (.t 46), none⟩, ⟨some 48, .mv (.t 1), some (47, true)⟩, ⟨some 49, .len (.t 48), some (47, true)⟩, ⟨some 50, .cmp .leq (.t 49) (.con (.int .i64 25)), some (47, true)⟩, ⟨some 51, .pick (.t 47) (.t 50) (.con (.bool false)), none⟩, ⟨some 4, .mv (.t 51), none⟩] [4])
  .ret))))
def r35 : List Res := [.tmp 4]

/-- palantype/mend.CheckReport -/
def v36 : Code :=
  (.seq (.region [⟨some 1, .box (.t 0), none⟩, ⟨some 2, .mv (.con (.int .i64 0)), none⟩] [1])
  (.seq (.region [⟨some 3, .load true 3 (.t 1), none⟩, ⟨some 4, .call 1 61 [.t 3], none⟩, ⟨some 2, .mv (.t 4), none⟩] [2])
  .ret))
def r36 : List Res := [.tmp 2]

/-- palantype/palantyperef04.RightReport -/
def v37 : Code :=
  (.seq (.region [⟨some 1, .box (.t 0), none⟩, ⟨some 2, .mv (.con (.bool false)), none⟩] [1])
  (.seq (.seq (.region [⟨some 3, .mv (.con (.int .i64 0)), none⟩] [1, 3])
  (.block 0 (.loop [1, 3] (.seq (.seq (.region [⟨some 4, .mv (.t 3), none⟩, ⟨some 5, .fieldAddr 0 (.t 1), none⟩, ⟨some 6, .load false 1 (.t 5), none⟩, ⟨some 7, .len (.t 6), none⟩, ⟨some 8, .cmp .lss (.t 4) (.t 7), none⟩] [1, 3, 8])
    (.cond (.t 8) .skip (.exit 0)))
    (.seq (.block 1 (.seq (.region [⟨some 11, .fieldAddr 0 (.t 1), none⟩, ⟨some 12, .load false 1 (.t 11), none⟩, ⟨some 13, .mv (.t 3), none⟩, ⟨some 14, .indexAddr 2 (.t 12) (.t 13), none⟩, ⟨some 15, .fieldAddr 0 (.t 14), none⟩, ⟨some 16, .load false 1 (.t 15), none⟩, ⟨some 17, .call 1 60 [.t 16], none⟩, ⟨some 18, .not (.t 17), none⟩, ⟨some 19, .mv (.t 18), none⟩, ⟨some 20, .fieldAddr 0 (.t 1), some (19, false)⟩, ⟨some 21, .load false 1 (.t 20), some (19, false)⟩, ⟨some 22, .mv (.t 3), some (19, false)⟩, ⟨some 23, .indexAddr 2 (.t 21) (.t 22), some (19, false)⟩, ⟨some 24, .fieldAddr 1 (.t 23), some (19, false)⟩, ⟨some 25, .load false 1 (.t 24), some (19, false)⟩, ⟨some 26, .call 1 28 [.t 25, .con (.int .i64 0), .con (.int .i64 999)], some (19, false)⟩, ⟨some 27, .not (.t 26), some (19, false)⟩, ⟨some 28, .pick (.t 19) (.con (.bool true)) (.t 27), none⟩] [1, 3, 28])
     (.cond (.t 28) (.seq (.region [⟨some 2, .mv (.con (.bool false)), none⟩] [2])
      .ret) .skip)))
    (.region [⟨some 9, .mv (.t 3), none⟩, ⟨some 10, .arith .add .i64 (.t 9) (.con (.int .i64 1)), none⟩, ⟨some 3, .mv (.t 10), none⟩] [1, 3]))))))
  (.seq (.region [⟨some 29, .fieldAddr 0 (.t 1), none⟩, ⟨some 30, .load false 1 (.t 29), none⟩, ⟨some 31, .len (.t 30), none⟩, ⟨some 32, .cmp .leq (.t 31) (.con (.int .i64 80)), none⟩, ⟨some 33, .mv (.t 32), none⟩, ⟨some 34, .fieldAddr 1 (.t 1), some (33, true)⟩, ⟨some 35, .load false 1 (.t 34), some (33, true)⟩, ⟨some 36, .call 1 28 [.t 35, .con (.int .i64 0), .con (.int .i64 100000)], some (33, true)⟩, ⟨some 37, .pick (.t 33) (.t 36) (.con (.bool false)), none⟩, ⟨some 38, .mv (.t 37), none⟩, ⟨some 39, .fieldAddr 2 (.t 1), some (38, true)⟩, ⟨some 40, .load false 1 (.t 39), some (38, true)⟩, ⟨some 41, .call 1 28 [.t 40, .con (.int .i64 0), .con (.int .i64 100000)], some (38, true)⟩, ⟨some 42, .pick (.t 38) (.t 41) (.con (.bool false)), none⟩, ⟨some 2, .mv (.t 42), none⟩] [2])
  .ret)))
def r37 : List Res := [.tmp 2]

/-- palantype/palantypelaw04.wrong -/
def v38 : Code :=
  (.seq (.region [⟨some 4, .box (.t 0), none⟩, ⟨some 6, .box (.t 2), none⟩, ⟨some 8, .mv (.con (.int .i64 0)), none⟩] [1, 3, 4, 6])
  (.seq (.seq (.region [⟨some 10, .load true 3 (.t 4), none⟩, ⟨some 11, .mv (.t 1), none⟩, ⟨some 12, .call 1 22 [.t 10, .t 11], none⟩, ⟨some 9, .mv (.t 12), none⟩] [3, 6, 9])
  (.seq (.region [⟨some 13, .mv (.t 9), none⟩, ⟨some 14, .cmp .neq (.t 13) (.con (.int .i64 0)), none⟩] [3, 6, 9, 14])
  (.cond (.t 14) (.seq (.region [⟨some 15, .mv (.t 9), none⟩, ⟨some 8, .mv (.t 15), none⟩] [8])
   .ret) .skip)))
  (.seq (.seq (.region [⟨some 16, .load true 3 (.t 6), none⟩, ⟨some 17, .call 1 37 [.t 16], none⟩, ⟨some 18, .not (.t 17), none⟩] [3, 18])
  (.cond (.t 18) (.seq (.region [⟨some 8, .mv (.con (.int .i64 1)), none⟩] [8])
   .ret) .skip))
  (.seq (.seq (.region [⟨some 19, .mv (.t 3), none⟩, ⟨some 20, .len (.t 19), none⟩, ⟨some 21, .cmp .gtr (.t 20) (.con (.int .i64 20)), none⟩] [21])
  (.cond (.t 21) (.seq (.region [⟨some 8, .mv (.con (.int .i64 3)), none⟩] [8])
   .ret) .skip))
  (.seq (.region [⟨some 8, .mv (.con (.int .i64 0)), none⟩] [8])
  .ret)))))
def r38 : List Res := [.tmp 8]

/-- palantype/palantyperef04.Decide -/
def v39 : Code :=
  (.seq (.region [⟨some 4, .box (.t 0), none⟩, ⟨some 6, .box (.t 2), none⟩, ⟨some 8, .newNil 3 1, none⟩] [1, 3, 4, 6])
  (.seq (.region [⟨some 17, .mv (.t 3), none⟩, ⟨some 18, .len (.t 17), none⟩, ⟨some 19, .makeSlice 3 1 8 [.int .i64 0] (.t 18), none⟩, ⟨some 9, .mv (.t 19), none⟩] [1, 3, 4, 6, 9])
  (.seq (.region [⟨some 20, .mv (.t 3), none⟩, ⟨some 21, .len (.t 20), none⟩, ⟨some 22, .makeSlice 4 1 1 [.bool false] (.t 21), none⟩, ⟨some 10, .mv (.t 22), none⟩] [1, 3, 4, 6, 9, 10])
  (.seq (.region [⟨some 11, .newNil 73 5, none⟩] [1, 3, 4, 6, 9, 10, 11])
  (.seq (.seq (.region [⟨some 12, .mv (.con (.int .i64 0)), none⟩] [1, 3, 4, 6, 9, 10, 11, 12])
  (.block 0 (.loop [1, 3, 4, 6, 9, 10, 11, 12] (.seq (.seq (.region [⟨some 23, .mv (.t 12), none⟩, ⟨some 24, .mv (.t 3), none⟩, ⟨some 25, .len (.t 24), none⟩, ⟨some 26, .cmp .lss (.t 23) (.t 25), none⟩] [1, 3, 4, 6, 9, 10, 11, 12, 26])
    (.cond (.t 26) .skip (.exit 0)))
    (.seq (.block 1 (.seq (.region [⟨some 13, .mv (.con (.int .i64 (-1))), none⟩] [1, 3, 4, 6, 9, 10, 11, 12, 13])
     (.seq (.seq (.region [⟨some 14, .mv (.con (.int .i64 0)), none⟩] [1, 3, 4, 6, 9, 10, 11, 12, 13, 14])
     (.block 2 (.loop [1, 3, 4, 6, 9, 10, 11, 12, 13, 14] (.seq (.seq (.region [⟨some 29, .mv (.t 14), none⟩, ⟨some 30, .mv (.t 3), none⟩, ⟨some 31, .len (.t 30), none⟩, ⟨some 32, .cmp .lss (.t 29) (.t 31), none⟩] [1, 3, 4, 6, 9, 10, 11, 12, 13, 14, 32])
       (.cond (.t 32) .skip (.exit 2)))
       (.seq (.block 3 (.seq (.region [⟨some 35, .mv (.t 10), none⟩, ⟨some 36, .mv (.t 14), none⟩, ⟨some 37, .indexAddr 1 (.t 35) (.t 36), none⟩, ⟨some 38, .load false 1 (.t 37), none⟩, ⟨some 39, .not (.t 38), none⟩, ⟨some 40, .mv (.t 39), none⟩, ⟨some 41, .mv (.t 13), some (40, true)⟩, ⟨some 42, .cmp .lss (.t 41) (.con (.int .i64 0)), some (40, true)⟩, ⟨some 43, .mv (.t 42), some (40, true)⟩, ⟨some 44, .mv (.t 3), some (43, false)⟩, ⟨some 45, .mv (.t 14), some (43, false)⟩, ⟨some 46, .mv (.t 13), some (43, false)⟩, ⟨some 47, .call 1 62 [.t 44, .t 45, .t 46], some (43, false)⟩, ⟨some 48, .pick (.t 43) (.con (.bool true)) (.t 47), some (40, true)⟩, ⟨some 49, .pick (.t 40) (.t 48) (.con (.bool false)), none⟩] [1, 3, 4, 6, 9, 10, 11, 12, 13, 14, 49])
        (.cond (.t 49) (.region [⟨some 50, .mv (.t 14), none⟩, ⟨some 13, .mv (.t 50), none⟩] [1, 3, 4, 6, 9, 10, 11, 12, 13, 14]) .skip)))
       (.region [⟨some 33, .mv (.t 14), none⟩, ⟨some 34, .arith .add .i64 (.t 33) (.con (.int .i64 1)), none⟩, ⟨some 14, .mv (.t 34), none⟩] [1, 3, 4, 6, 9, 10, 11, 12, 13, 14]))))))
     (.seq (.region [⟨some 51, .mv (.t 10), none⟩, ⟨some 52, .mv (.t 13), none⟩, ⟨some 53, .indexAddr 1 (.t 51) (.t 52), none⟩, ⟨none, .store false 1 (.t 53) (.con (.bool true)), none⟩] [1, 3, 4, 6, 9, 10, 11, 12, 13])
     (.seq (.region [⟨some 54, .mv (.t 3), none⟩, ⟨some 55, .mv (.t 13), none⟩, ⟨some 56, .indexAddr 5 (.t 54) (.t 55), none⟩, ⟨some 57, .load true 5 (.t 56), none⟩, ⟨some 15, .alloc [.d (.int .i64 0), .d (.int .i64 0), .d (.int .i64 0), .d (.int .i64 0), .nil 9 1], none⟩, ⟨none, .store true 5 (.t 15) (.t 57), none⟩] [1, 3, 4, 6, 9, 10, 11, 12, 13, 15])
     (.seq (.region [⟨some 58, .mv (.t 9), none⟩, ⟨some 59, .mv (.t 13), none⟩, ⟨some 60, .load true 3 (.t 4), none⟩, ⟨some 61, .mv (.t 1), none⟩, ⟨some 62, .load true 3 (.t 6), none⟩, ⟨some 63, .load true 5 (.t 15), none⟩, ⟨some 64, .call 1 63 [.t 60, .t 61, .t 62, .t 63], none⟩, ⟨some 65, .indexAddr 1 (.t 58) (.t 59), none⟩, ⟨none, .store false 1 (.t 65) (.t 64), none⟩] [1, 3, 4, 6, 9, 10, 11, 12, 13, 15])
     (.seq (.seq (.region [⟨some 16, .mv (.con (.int .i64 0)), none⟩] [1, 3, 4, 6, 9, 10, 11, 12, 13, 15, 16])
     (.block 4 (.loop [1, 3, 4, 6, 9, 10, 11, 12, 13, 15, 16] (.seq (.seq (.region [⟨some 66, .mv (.t 16), none⟩, ⟨some 67, .mv (.t 11), none⟩, ⟨some 68, .len (.t 67), none⟩, ⟨some 69, .cmp .lss (.t 66) (.t 68), none⟩] [1, 3, 4, 6, 9, 10, 11, 12, 13, 15, 16, 69])
       (.cond (.t 69) .skip (.exit 4)))
       (.seq (.block 5 (.seq (.region [⟨some 72, .mv (.t 9), none⟩, ⟨some 73, .mv (.t 13), none⟩, ⟨some 74, .indexAddr 1 (.t 72) (.t 73), none⟩, ⟨some 75, .load false 1 (.t 74), none⟩, ⟨some 76, .cmp .eql (.t 75) (.con (.int .i64 0)), none⟩, ⟨some 77, .mv (.t 76), none⟩, ⟨some 78, .load true 5 (.t 15), some (77, true)⟩, ⟨some 79, .mv (.t 11), some (77, true)⟩, ⟨some 80, .mv (.t 16), some (77, true)⟩, ⟨some 81, .indexAddr 5 (.t 79) (.t 80), some (77, true)⟩, ⟨some 82, .load true 5 (.t 81), some (77, true)⟩, ⟨some 83, .call 1 33 [.t 78, .t 82], some (77, true)⟩, ⟨some 84, .pick (.t 77) (.t 83) (.con (.bool false)), none⟩] [1, 3, 4, 6, 9, 10, 11, 12, 13, 15, 16, 84])
        (.cond (.t 84) (.region [⟨some 85, .mv (.t 9), none⟩, ⟨some 86, .mv (.t 13), none⟩, ⟨some 87, .indexAddr 1 (.t 85) (.t 86), none⟩, ⟨none, .store false 1 (.t 87) (.con (.int .i64 6)), none⟩] [1, 3, 4, 6, 9, 10, 11, 12, 13, 15, 16]) .skip)))
       (.region [⟨some 70, .mv (.t 16), none⟩, ⟨some 71, .arith .add .i64 (.t 70) (.con (.int .i64 1)), none⟩, ⟨some 16, .mv (.t 71), none⟩] [1, 3, 4, 6, 9, 10, 11, 12, 13, 15, 16]))))))
     (.seq (.region [⟨some 88, .mv (.t 9), none⟩, ⟨some 89, .mv (.t 13), none⟩, ⟨some 90, .indexAddr 1 (.t 88) (.t 89), none⟩, ⟨some 91, .load false 1 (.t 90), none⟩, ⟨some 92, .cmp .eql (.t 91) (.con (.int .i64 0)), none⟩] [1, 3, 4, 6, 9, 10, 11, 12, 15, 92])
     (.cond (.t 92) (.region [⟨some 93, .mv (.t 11), none⟩, ⟨some 94, .load true 5 (.t 15), none⟩, ⟨some 95, .buildSlice 73 5 [.t 94], none⟩, ⟨some 96, .append 73 5 56 (.t 93) (.t 95), none⟩, ⟨some 11, .mv (.t 96), none⟩] [1, 3, 4, 6, 9, 10, 11, 12]) .skip)))))))))
    (.region [⟨some 27, .mv (.t 12), none⟩, ⟨some 28, .arith .add .i64 (.t 27) (.con (.int .i64 1)), none⟩, ⟨some 12, .mv (.t 28), none⟩] [1, 3, 4, 6, 9, 10, 11, 12]))))))
  (.seq (.region [⟨some 97, .mv (.t 9), none⟩, ⟨some 8, .mv (.t 97), none⟩] [8])
  .ret))))))
def r39 : List Res := [.tmp 8]

/-- palantype/mend.CheckLexicon -/
def v40 : Code :=
  (.seq (.region [⟨some 1, .box (.t 0), none⟩, ⟨some 2, .mv (.con (.int .i64 0)), none⟩] [1])
  (.seq (.region [⟨some 6, .load true 3 (.t 1), none⟩, ⟨some 7, .call 0 58 [.t 6], none⟩, ⟨some 5, .mv (.t 7), none⟩, ⟨some 8, .extract (.t 5) 0, none⟩, ⟨some 9, .extract (.t 5) 1, none⟩, ⟨some 3, .mv (.t 8), none⟩, ⟨some 4, .mv (.t 9), none⟩] [4])
  (.seq (.region [⟨some 10, .mv (.t 4), none⟩, ⟨some 2, .mv (.t 10), none⟩] [2])
  .ret)))
def r40 : List Res := [.tmp 2]

/-- palantype/palantypelaw04.marks -/
def v41 : Code :=
  (.seq (.region [⟨some 4, .mv (.con (.bool false)), none⟩] [0, 1])
  (.seq (.seq (.region [⟨some 6, .mv (.t 0), none⟩, ⟨some 7, .len (.t 6), none⟩, ⟨some 8, .mv (.t 1), none⟩, ⟨some 9, .len (.t 8), none⟩, ⟨some 10, .cmp .neq (.t 7) (.t 9), none⟩] [0, 1, 10])
  (.cond (.t 10) (.seq (.region [⟨some 4, .mv (.con (.bool false)), none⟩] [4])
   .ret) .skip))
  (.seq (.seq (.region [⟨some 5, .mv (.con (.int .i64 0)), none⟩] [0, 1, 5])
  (.block 0 (.loop [0, 1, 5] (.seq (.seq (.region [⟨some 11, .mv (.t 5), none⟩, ⟨some 12, .mv (.t 0), none⟩, ⟨some 13, .len (.t 12), none⟩, ⟨some 14, .cmp .lss (.t 11) (.t 13), none⟩] [0, 1, 5, 14])
    (.cond (.t 14) .skip (.exit 0)))
    (.seq (.block 1 (.seq (.region [⟨some 17, .mv (.t 0), none⟩, ⟨some 18, .mv (.t 5), none⟩, ⟨some 19, .indexAddr 2 (.t 17) (.t 18), none⟩, ⟨some 20, .fieldAddr 0 (.t 19), none⟩, ⟨some 21, .load false 1 (.t 20), none⟩, ⟨some 22, .mv (.t 1), none⟩, ⟨some 23, .mv (.t 5), none⟩, ⟨some 24, .indexAddr 2 (.t 22) (.t 23), none⟩, ⟨some 25, .fieldAddr 0 (.t 24), none⟩, ⟨some 26, .load false 1 (.t 25), none⟩, ⟨some 27, .cmp .neq (.t 21) (.t 26), none⟩, ⟨some 28, .mv (.t 27), none⟩, ⟨some 29, .mv (.t 0), some (28, false)⟩, ⟨some 30, .mv (.t 5), some (28, false)⟩, ⟨some 31, .indexAddr 2 (.t 29) (.t 30), some (28, false)⟩, ⟨some 32, .fieldAddr 1 (.t 31), some (28, false)⟩, ⟨some 33, .load false 1 (.t 32), some (28, false)⟩, ⟨some 34, .mv (.t 1), some (28, false)⟩, ⟨some 35, .mv (.t 5), some (28, false)⟩, ⟨some 36, .indexAddr 2 (.t 34) (.t 35), some (28, false)⟩, ⟨some 37, .fieldAddr 1 (.t 36), some (28, false)⟩, ⟨some 38, .load false 1 (.t 37), some (28, false)⟩, ⟨some 39, .cmp .neq (.t 33) (.t 38), some (28, false)⟩, ⟨some 40, .pick (.t 28) (.con (.bool true)) (.t 39), none⟩] [0, 1, 5, 40])
     (.cond (.t 40) (.seq (.region [⟨some 4, .mv (.con (.bool false)), none⟩] [4])
      .ret) .skip)))
    (.region [⟨some 15, .mv (.t 5), none⟩, ⟨some 16, .arith .add .i64 (.t 15) (.con (.int .i64 1)), none⟩, ⟨some 5, .mv (.t 16), none⟩] [0, 1, 5]))))))
  (.seq (.region [⟨some 4, .mv (.con (.bool true)), none⟩] [4])
  .ret))))
def r41 : List Res := [.tmp 4]

/-- palantype/palantypelaw04.same -/
def v46 : Code :=
  (.seq (.region [⟨some 4, .mv (.con (.bool false)), none⟩] [0, 1])
  (.seq (.seq (.region [⟨some 6, .mv (.t 0), none⟩, ⟨some 7, .len (.t 6), none⟩, ⟨some 8, .mv (.t 1), none⟩, ⟨some 9, .len (.t 8), none⟩, ⟨some 10, .cmp .neq (.t 7) (.t 9), none⟩] [0, 1, 10])
  (.cond (.t 10) (.seq (.region [⟨some 4, .mv (.con (.bool false)), none⟩] [4])
   .ret) .skip))
  (.seq (.seq (.region [⟨some 5, .mv (.con (.int .i64 0)), none⟩] [0, 1, 5])
  (.block 0 (.loop [0, 1, 5] (.seq (.seq (.region [⟨some 11, .mv (.t 5), none⟩, ⟨some 12, .mv (.t 0), none⟩, ⟨some 13, .len (.t 12), none⟩, ⟨some 14, .cmp .lss (.t 11) (.t 13), none⟩] [0, 1, 5, 14])
    (.cond (.t 14) .skip (.exit 0)))
    (.seq (.block 1 (.seq (.region [⟨some 17, .mv (.t 0), none⟩, ⟨some 18, .mv (.t 5), none⟩, ⟨some 19, .indexAddr 1 (.t 17) (.t 18), none⟩, ⟨some 20, .load false 1 (.t 19), none⟩, ⟨some 21, .mv (.t 1), none⟩, ⟨some 22, .mv (.t 5), none⟩, ⟨some 23, .indexAddr 1 (.t 21) (.t 22), none⟩, ⟨some 24, .load false 1 (.t 23), none⟩, ⟨some 25, .strOp .neq (.t 20) (.t 24), none⟩] [0, 1, 5, 25])
     (.cond (.t 25) (.seq (.region [⟨some 4, .mv (.con (.bool false)), none⟩] [4])
      .ret) .skip)))
    (.region [⟨some 15, .mv (.t 5), none⟩, ⟨some 16, .arith .add .i64 (.t 15) (.con (.int .i64 1)), none⟩, ⟨some 5, .mv (.t 16), none⟩] [0, 1, 5]))))))
  (.seq (.region [⟨some 4, .mv (.con (.bool true)), none⟩] [4])
  .ret))))
def r46 : List Res := [.tmp 4]

/-- palantype/palantyperef04.Olds -/
def v47 : Code :=
  (.seq (.region [⟨some 3, .box (.t 0), none⟩, ⟨some 6, .newNil 9 1, none⟩] [1, 2, 3])
  (.seq (.region [⟨some 7, .newNil 9 1, none⟩] [1, 2, 3, 7])
  (.seq (.seq (.region [⟨some 9, .mv (.t 1), none⟩, ⟨some 8, .mv (.t 9), none⟩] [2, 3, 7, 8])
  (.block 0 (.loop [2, 3, 7, 8] (.seq (.seq (.region [⟨some 10, .mv (.t 8), none⟩, ⟨some 11, .mv (.t 2), none⟩, ⟨some 12, .cmp .lss (.t 10) (.t 11), none⟩] [2, 3, 7, 8, 12])
    (.cond (.t 12) .skip (.exit 0)))
    (.seq (.block 1 (.region [⟨some 15, .mv (.t 7), none⟩, ⟨some 16, .fieldAddr 0 (.t 3), none⟩, ⟨some 17, .load false 1 (.t 16), none⟩, ⟨some 18, .mv (.t 8), none⟩, ⟨some 19, .indexAddr 2 (.t 17) (.t 18), none⟩, ⟨some 20, .fieldAddr 0 (.t 19), none⟩, ⟨some 21, .load false 1 (.t 20), none⟩, ⟨some 22, .buildSlice 9 1 [.t 21], none⟩, ⟨some 23, .append 9 1 16 (.t 15) (.t 22), none⟩, ⟨some 7, .mv (.t 23), none⟩] [2, 3, 7, 8]))
    (.region [⟨some 13, .mv (.t 8), none⟩, ⟨some 14, .arith .add .i64 (.t 13) (.con (.int .i64 1)), none⟩, ⟨some 8, .mv (.t 14), none⟩] [2, 3, 7, 8]))))))
  (.seq (.region [⟨some 24, .mv (.t 7), none⟩, ⟨some 6, .mv (.t 24), none⟩] [6])
  .ret))))
def r47 : List Res := [.tmp 6]

/-- palantype/palantypelaw04.words -/
def v48 : Code :=
  (.seq (.region [⟨some 0, .alloc [.nil 123 2, .nil 24 1, .nil 9 1], none⟩, ⟨some 1, .newNil 109 3, none⟩] [0])
  (.seq (.region [⟨some 2, .build [.d (.str ⟨#[]⟩), .d (.int .i64 0)] [(0, 1, .con (.str ⟨#[116, 101, 110]⟩)), (1, 1, .con (.int .i64 10))], none⟩, ⟨some 3, .build [.d (.str ⟨#[]⟩), .d (.int .i64 0)] [(0, 1, .con (.str ⟨#[109, 105, 108, 108, 105, 111, 110]⟩)), (1, 1, .con (.int .i64 1000000))], none⟩, ⟨some 4, .buildSlice 123 2 [.t 2, .t 3], none⟩, ⟨some 5, .buildSlice 9 1 [.con (.str ⟨#[83, 109, 105, 116, 104]⟩), .con (.str ⟨#[83, 109, 121, 116, 104]⟩)], none⟩, ⟨some 6, .buildSlice 9 1 [.con (.str ⟨#[74, 111, 110, 101, 115]⟩)], none⟩, ⟨some 7, .buildSlice 24 1 [.t 5, .t 6], none⟩, ⟨some 8, .buildSlice 9 1 [.con (.str ⟨#[110, 111, 116]⟩), .con (.str ⟨#[110, 101, 118, 101, 114]⟩)], none⟩, ⟨some 9, .build [.d (.row 0 []), .d (.row 0 []), .d (.row 0 [])] [(0, 1, .t 4), (1, 1, .t 7), (2, 1, .t 8)], none⟩, ⟨some 10, .build [.d (.int .u8 0), .d (.int .i64 0), .d (.int .i64 0)] [(0, 1, .con (.int .u8 1)), (1, 1, .con (.int .i64 10)), (2, 1, .con (.int .i64 12))], none⟩, ⟨some 11, .buildArr 109 3 [.t 10], none⟩, ⟨none, .store true 3 (.t 0) (.t 9), none⟩, ⟨some 1, .mv (.t 11), none⟩] [0, 1])
  .ret))
def r48 : List Res := [.cell 0 true 3, .tmp 1]

/-- palantype/palantypelaw04.asked -/
def v49 : Code :=
  (.seq (.region [⟨some 0, .alloc [.nil 58 2, .d (.int .i64 0), .d (.int .i64 0)], none⟩, ⟨some 1, .newNil 63 5, none⟩] [0])
  (.seq (.region [⟨some 2, .build [.d (.str ⟨#[]⟩), .d (.int .i64 0)] [(0, 1, .con (.str ⟨#[83, 109, 105, 116, 104]⟩)), (1, 1, .con (.int .i64 1))], none⟩, ⟨some 3, .build [.d (.str ⟨#[]⟩), .d (.int .i64 0)] [(0, 1, .con (.str ⟨#[112, 97, 105, 100]⟩)), (1, 1, .con (.int .i64 1))], none⟩, ⟨some 4, .build [.d (.str ⟨#[]⟩), .d (.int .i64 0)] [(0, 1, .con (.str ⟨#[116, 101, 110]⟩)), (1, 1, .con (.int .i64 1))], none⟩, ⟨some 5, .build [.d (.str ⟨#[]⟩), .d (.int .i64 0)] [(0, 1, .con (.str ⟨#[121, 101, 115]⟩)), (1, 1, .con (.int .i64 2))], none⟩, ⟨some 6, .buildSlice 58 2 [.t 2, .t 3, .t 4, .t 5], none⟩, ⟨some 7, .build [.d (.row 0 []), .d (.int .i64 0), .d (.int .i64 0)] [(0, 1, .t 6), (1, 1, .con (.int .i64 100)), (2, 1, .con (.int .i64 60))], none⟩, ⟨some 8, .buildSlice 9 1 [.con (.str ⟨#[104, 97, 115]⟩), .con (.str ⟨#[112, 97, 105, 100]⟩)], none⟩, ⟨some 9, .build [.d (.int .i64 0), .d (.int .i64 0), .d (.int .i64 0), .d (.int .i64 0), .d (.row 0 [])] [(0, 1, .con (.int .i64 1)), (1, 1, .con (.int .i64 120)), (2, 1, .con (.int .i64 1)), (3, 1, .con (.int .i64 1)), (4, 1, .t 8)], none⟩, ⟨some 10, .buildSlice 9 1 [.con (.str ⟨#[49, 50]⟩)], none⟩, ⟨some 11, .build [.d (.int .i64 0), .d (.int .i64 0), .d (.int .i64 0), .d (.int .i64 0), .d (.row 0 [])] [(0, 1, .con (.int .i64 1)), (1, 1, .con (.int .i64 110)), (2, 1, .con (.int .i64 2)), (3, 1, .con (.int .i64 1)), (4, 1, .t 10)], none⟩, ⟨some 12, .buildSlice 9 1 [.con (.str ⟨#[49, 48]⟩)], none⟩, ⟨some 13, .build [.d (.int .i64 0), .d (.int .i64 0), .d (.int .i64 0), .d (.int .i64 0), .d (.row 0 [])] [(0, 1, .con (.int .i64 2)), (1, 1, .con (.int .i64 130)), (2, 1, .con (.int .i64 2)), (3, 1, .con (.int .i64 1)), (4, 1, .t 12)], none⟩, ⟨some 14, .buildSlice 9 1 [.con (.str ⟨#[110, 111]⟩)], none⟩, ⟨some 15, .build [.d (.int .i64 0), .d (.int .i64 0), .d (.int .i64 0), .d (.int .i64 0), .d (.row 0 [])] [(0, 1, .con (.int .i64 2)), (1, 1, .con (.int .i64 161)), (2, 1, .con (.int .i64 3)), (3, 1, .con (.int .i64 1)), (4, 1, .t 14)], none⟩, ⟨some 16, .buildSlice 9 1 [.con (.str ⟨#[110, 111, 116]⟩)], none⟩, ⟨some 17, .build [.d (.int .i64 0), .d (.int .i64 0), .d (.int .i64 0), .d (.int .i64 0), .d (.row 0 [])] [(0, 1, .con (.int .i64 2)), (1, 1, .con (.int .i64 160)), (2, 1, .con (.int .i64 3)), (3, 1, .con (.int .i64 1)), (4, 1, .t 16)], none⟩, ⟨some 18, .buildArr 63 5 [.t 9, .t 11, .t 13, .t 15, .t 17], none⟩, ⟨none, .store true 3 (.t 0) (.t 7), none⟩, ⟨some 1, .mv (.t 18), none⟩] [0, 1])
  .ret))
def r49 : List Res := [.cell 0 true 3, .tmp 1]

/-- palantype/palantypelaw04.errors -/
def v50 : Code :=
  (.seq (.region [⟨some 4, .mv (.con (.bool false)), none⟩] [0, 1])
  (.seq (.seq (.region [⟨some 6, .mv (.t 0), none⟩, ⟨some 7, .len (.t 6), none⟩, ⟨some 8, .mv (.t 1), none⟩, ⟨some 9, .len (.t 8), none⟩, ⟨some 10, .cmp .neq (.t 7) (.t 9), none⟩] [0, 1, 10])
  (.cond (.t 10) (.seq (.region [⟨some 4, .mv (.con (.bool false)), none⟩] [4])
   .ret) .skip))
  (.seq (.seq (.region [⟨some 5, .mv (.con (.int .i64 0)), none⟩] [0, 1, 5])
  (.block 0 (.loop [0, 1, 5] (.seq (.seq (.region [⟨some 11, .mv (.t 5), none⟩, ⟨some 12, .mv (.t 0), none⟩, ⟨some 13, .len (.t 12), none⟩, ⟨some 14, .cmp .lss (.t 11) (.t 13), none⟩] [0, 1, 5, 14])
    (.cond (.t 14) .skip (.exit 0)))
    (.seq (.block 1 (.seq (.region [⟨some 17, .mv (.t 0), none⟩, ⟨some 18, .mv (.t 5), none⟩, ⟨some 19, .indexAddr 1 (.t 17) (.t 18), none⟩, ⟨some 20, .load false 1 (.t 19), none⟩, ⟨some 21, .mv (.t 1), none⟩, ⟨some 22, .mv (.t 5), none⟩, ⟨some 23, .indexAddr 1 (.t 21) (.t 22), none⟩, ⟨some 24, .load false 1 (.t 23), none⟩, ⟨some 25, .cmp .neq (.t 20) (.t 24), none⟩] [0, 1, 5, 25])
     (.cond (.t 25) (.seq (.region [⟨some 4, .mv (.con (.bool false)), none⟩] [4])
      .ret) .skip)))
    (.region [⟨some 15, .mv (.t 5), none⟩, ⟨some 16, .arith .add .i64 (.t 15) (.con (.int .i64 1)), none⟩, ⟨some 5, .mv (.t 16), none⟩] [0, 1, 5]))))))
  (.seq (.region [⟨some 4, .mv (.con (.bool true)), none⟩] [4])
  .ret))))
def r50 : List Res := [.tmp 4]

/-- palantype/mend.ruled -/
def v51 : Code :=
  (.seq (.region [⟨some 2, .box (.t 0), none⟩, ⟨some 4, .alloc [.d (.map0), .nil 109 3], none⟩, ⟨some 5, .mv (.con (.int .i64 0)), none⟩] [1, 2, 4])
  (.seq (.region [⟨some 10, .load true 3 (.t 2), none⟩, ⟨some 11, .call 0 58 [.t 10], none⟩, ⟨some 9, .mv (.t 11), none⟩, ⟨some 12, .extract (.t 9) 0, none⟩, ⟨some 13, .extract (.t 9) 1, none⟩, ⟨some 6, .mv (.t 12), none⟩, ⟨some 7, .mv (.t 13), none⟩] [1, 4, 6, 7])
  (.seq (.region [⟨some 8, .mv (.con (.fn 71 [] [])), none⟩] [1, 4, 6, 7, 8])
  (.seq (.block 0 (.seq (.region [⟨some 15, .mv (.t 7), none⟩, ⟨some 16, .cmp .neq (.t 15) (.con (.int .i64 0)), none⟩, ⟨some 14, .mv (.t 16), none⟩] [1, 4, 6, 7, 8, 14])
   (.cond (.t 14) (.seq (.region [⟨some 17, .build [.d (.map0), .nil 109 3] [], none⟩, ⟨some 18, .mv (.t 7), none⟩, ⟨none, .store true 2 (.t 4) (.t 17), none⟩, ⟨some 5, .mv (.t 18), none⟩] [4, 5])
    .ret) (.seq (.region [⟨some 20, .mv (.t 1), none⟩, ⟨some 21, .len (.t 20), none⟩, ⟨some 22, .cmp .gtr (.t 21) (.con (.int .i64 20)), none⟩, ⟨some 19, .mv (.t 22), none⟩] [1, 4, 6, 8, 19])
    (.cond (.t 19) (.seq (.region [⟨some 23, .build [.d (.map0), .nil 109 3] [], none⟩, ⟨none, .store true 2 (.t 4) (.t 23), none⟩, ⟨some 5, .mv (.con (.int .i64 3)), none⟩] [4, 5])
     .ret) (.seq (.region [⟨some 25, .mv (.t 1), none⟩, ⟨some 26, .mv (.t 8), none⟩, ⟨some 27, .call 1 73 [.t 25, .t 26], none⟩, ⟨some 28, .not (.t 27), none⟩, ⟨some 24, .mv (.t 28), none⟩] [1, 4, 6, 24])
     (.cond (.t 24) (.seq (.region [⟨some 29, .build [.d (.map0), .nil 109 3] [], none⟩, ⟨none, .store true 2 (.t 4) (.t 29), none⟩, ⟨some 5, .mv (.con (.int .i64 1)), none⟩] [4, 5])
      .ret) .skip)))))))
  (.seq (.region [⟨some 30, .mv (.t 6), none⟩, ⟨some 31, .mv (.t 1), none⟩, ⟨some 32, .build [.d (.map0), .d (.row 0 [])] [(0, 1, .t 30), (1, 1, .t 31)], none⟩, ⟨none, .store true 2 (.t 4) (.t 32), none⟩, ⟨some 5, .mv (.con (.int .i64 0)), none⟩] [4, 5])
  .ret)))))
def r51 : List Res := [.cell 4 true 2, .tmp 5]

/-- palantype/mend.listed -/
def v52 : Code :=
  (.seq (.region [⟨some 2, .mv (.con (.int .i64 0)), none⟩] [0])
  (.seq (.block 0 (.seq (.region [⟨some 4, .mv (.t 0), none⟩, ⟨some 5, .call 1 74 [.t 4, .con (.fn 75 [] [])], none⟩, ⟨some 6, .not (.t 5), none⟩, ⟨some 3, .mv (.t 6), none⟩] [0, 3])
   (.cond (.t 3) (.seq (.region [⟨some 2, .mv (.con (.int .i64 3)), none⟩] [2])
    .ret) (.seq (.region [⟨some 8, .mv (.t 0), none⟩, ⟨some 9, .call 1 74 [.t 8, .con (.fn 76 [] [])], none⟩, ⟨some 10, .not (.t 9), none⟩, ⟨some 7, .mv (.t 10), none⟩] [7])
    (.cond (.t 7) (.seq (.region [⟨some 2, .mv (.con (.int .i64 1)), none⟩] [2])
     .ret) .skip)))))
  (.seq (.region [⟨some 2, .mv (.con (.int .i64 0)), none⟩] [2])
  .ret)))
def r52 : List Res := [.tmp 2]

/-- (palantype/mend.rules).trouble -/
def v53 : Code :=
  (.seq (.region [⟨some 3, .box (.t 0), none⟩, ⟨some 6, .mv (.con (.int .i64 0)), none⟩] [1, 2, 3])
  (.seq (.region [⟨some 7, .alloc [.nil 3 1, .nil 3 1], none⟩] [1, 2, 3, 7])
  (.seq (.seq (.region [⟨some 14, .mv (.t 2), none⟩, ⟨some 15, .len (.t 14), none⟩, ⟨some 16, .arith .add .i64 (.t 15) (.con (.int .i64 1)), none⟩, ⟨some 17, .mv (.con (.int .i64 0)), none⟩] [1, 2, 3, 7, 16, 17])
  (.block 0 (.loop [1, 2, 3, 7, 16, 17] (.seq (.region [⟨some 18, .cmp .lss (.t 17) (.t 16), none⟩] [1, 2, 3, 7, 16, 17, 18])
    (.seq (.cond (.t 18) .skip (.exit 0))
    (.seq (.block 1 (.seq (.region [⟨some 19, .mv (.t 17), none⟩, ⟨some 8, .mv (.t 19), none⟩] [1, 2, 3, 7, 8, 16, 17])
     (.region [⟨some 20, .indexCells 2 1 (.t 7) (.con (.int .i64 0)), none⟩, ⟨some 21, .load false 1 (.t 20), none⟩, ⟨some 22, .mv (.t 8), none⟩, ⟨some 23, .buildSlice 3 1 [.t 22], none⟩, ⟨some 24, .append 3 1 8 (.t 21) (.t 23), none⟩, ⟨some 25, .indexCells 2 1 (.t 7) (.con (.int .i64 0)), none⟩, ⟨none, .store false 1 (.t 25) (.t 24), none⟩] [1, 2, 3, 7, 16, 17])))
    (.region [⟨some 26, .arith .add .i64 (.t 17) (.con (.int .i64 1)), none⟩, ⟨some 17, .mv (.t 26), none⟩] [1, 2, 3, 7, 16, 17])))))))
  (.seq (.seq (.region [⟨some 27, .mv (.t 1), none⟩, ⟨some 28, .len (.t 27), none⟩, ⟨some 29, .mv (.con (.int .i64 0)), none⟩] [2, 3, 7, 27, 28, 29])
  (.block 2 (.loop [2, 3, 7, 27, 28, 29] (.seq (.region [⟨some 30, .cmp .lss (.t 29) (.t 28), none⟩] [2, 3, 7, 27, 28, 29, 30])
    (.seq (.cond (.t 30) .skip (.exit 2))
    (.seq (.block 3 (.seq (.region [⟨some 31, .mv (.t 29), none⟩, ⟨some 32, .indexAddr 2 (.t 27) (.t 29), none⟩, ⟨some 33, .load true 2 (.t 32), none⟩, ⟨some 10, .alloc [.d (.int .u8 0), .d (.int .i64 0)], none⟩, ⟨some 9, .mv (.t 31), none⟩, ⟨none, .store true 2 (.t 10) (.t 33), none⟩] [2, 3, 7, 9, 10, 27, 28, 29])
     (.seq (.region [⟨some 34, .mv (.t 9), none⟩, ⟨some 35, .arith .add .i64 (.t 34) (.con (.int .i64 1)), none⟩, ⟨some 36, .buildArr 3 1 [.t 35], none⟩, ⟨some 37, .indexCells 2 1 (.t 7) (.con (.int .i64 1)), none⟩, ⟨none, .store false 1 (.t 37) (.t 36), none⟩] [2, 3, 7, 10, 27, 28, 29])
     (.seq (.seq (.region [⟨some 38, .mv (.t 2), none⟩, ⟨some 39, .len (.t 38), none⟩, ⟨some 40, .mv (.con (.int .i64 0)), none⟩] [2, 3, 7, 10, 27, 28, 29, 38, 39, 40])
     (.block 4 (.loop [2, 3, 7, 10, 27, 28, 29, 38, 39, 40] (.seq (.region [⟨some 41, .cmp .lss (.t 40) (.t 39), none⟩] [2, 3, 7, 10, 27, 28, 29, 38, 39, 40, 41])
       (.seq (.cond (.t 41) .skip (.exit 4))
       (.seq (.block 5 (.seq (.region [⟨some 42, .mv (.t 40), none⟩, ⟨some 43, .indexAddr 2 (.t 38) (.t 40), none⟩, ⟨some 44, .load true 2 (.t 43), none⟩, ⟨some 12, .alloc [.d (.int .u8 0), .d (.int .i64 0)], none⟩, ⟨some 11, .mv (.t 42), none⟩, ⟨none, .store true 2 (.t 12) (.t 44), none⟩] [2, 3, 7, 10, 11, 12, 27, 28, 29, 38, 39, 40])
        (.seq (.region [⟨some 45, .indexCells 2 1 (.t 7) (.con (.int .i64 0)), none⟩, ⟨some 46, .load false 1 (.t 45), none⟩, ⟨some 47, .mv (.t 11), none⟩, ⟨some 48, .indexAddr 1 (.t 46) (.t 47), none⟩, ⟨some 49, .load false 1 (.t 48), none⟩, ⟨some 50, .arith .add .i64 (.t 49) (.con (.int .i64 1)), none⟩, ⟨some 13, .mv (.t 50), none⟩] [2, 3, 7, 10, 11, 12, 13, 27, 28, 29, 38, 39, 40])
        (.seq (.seq (.region [⟨some 51, .load true 2 (.t 3), none⟩, ⟨some 52, .load true 2 (.t 10), none⟩, ⟨some 53, .load true 2 (.t 12), none⟩, ⟨some 54, .call 1 79 [.t 51, .t 52, .t 53], none⟩] [2, 3, 7, 10, 11, 13, 27, 28, 29, 38, 39, 40, 54])
        (.cond (.t 54) (.region [⟨some 55, .mv (.t 13), none⟩, ⟨some 56, .arith .sub .i64 (.t 55) (.con (.int .i64 1)), none⟩, ⟨some 13, .mv (.t 56), none⟩] [2, 3, 7, 10, 11, 13, 27, 28, 29, 38, 39, 40]) .skip))
        (.region [⟨some 57, .indexCells 2 1 (.t 7) (.con (.int .i64 1)), none⟩, ⟨some 58, .load false 1 (.t 57), none⟩, ⟨some 59, .mv (.t 13), none⟩, ⟨some 60, .indexCells 2 1 (.t 7) (.con (.int .i64 0)), none⟩, ⟨some 61, .load false 1 (.t 60), none⟩, ⟨some 62, .mv (.t 11), none⟩, ⟨some 63, .arith .add .i64 (.t 62) (.con (.int .i64 1)), none⟩, ⟨some 64, .indexAddr 1 (.t 61) (.t 63), none⟩, ⟨some 65, .load false 1 (.t 64), none⟩, ⟨some 66, .arith .add .i64 (.t 65) (.con (.int .i64 1)), none⟩, ⟨some 67, .indexCells 2 1 (.t 7) (.con (.int .i64 1)), none⟩, ⟨some 68, .load false 1 (.t 67), none⟩, ⟨some 69, .mv (.t 11), none⟩, ⟨some 70, .indexAddr 1 (.t 68) (.t 69), none⟩, ⟨some 71, .load false 1 (.t 70), none⟩, ⟨some 72, .arith .add .i64 (.t 71) (.con (.int .i64 1)), none⟩, ⟨some 73, .min [.t 59, .t 66, .t 72], none⟩, ⟨some 74, .buildSlice 3 1 [.t 73], none⟩, ⟨some 75, .append 3 1 8 (.t 58) (.t 74), none⟩, ⟨some 76, .indexCells 2 1 (.t 7) (.con (.int .i64 1)), none⟩, ⟨none, .store false 1 (.t 76) (.t 75), none⟩] [2, 3, 7, 10, 27, 28, 29, 38, 39, 40])))))
       (.region [⟨some 77, .arith .add .i64 (.t 40) (.con (.int .i64 1)), none⟩, ⟨some 40, .mv (.t 77), none⟩] [2, 3, 7, 10, 27, 28, 29, 38, 39, 40])))))))
     (.region [⟨some 78, .indexCells 2 1 (.t 7) (.con (.int .i64 1)), none⟩, ⟨some 79, .load false 1 (.t 78), none⟩, ⟨some 80, .indexCells 2 1 (.t 7) (.con (.int .i64 0)), none⟩, ⟨none, .store false 1 (.t 80) (.t 79), none⟩] [2, 3, 7, 27, 28, 29])))))
    (.region [⟨some 81, .arith .add .i64 (.t 29) (.con (.int .i64 1)), none⟩, ⟨some 29, .mv (.t 81), none⟩] [2, 3, 7, 27, 28, 29])))))))
  (.seq (.region [⟨some 82, .indexCells 2 1 (.t 7) (.con (.int .i64 0)), none⟩, ⟨some 83, .load false 1 (.t 82), none⟩, ⟨some 84, .mv (.t 2), none⟩, ⟨some 85, .len (.t 84), none⟩, ⟨some 86, .indexAddr 1 (.t 83) (.t 85), none⟩, ⟨some 87, .load false 1 (.t 86), none⟩, ⟨some 6, .mv (.t 87), none⟩] [6])
  .ret)))))
def r53 : List Res := [.tmp 6]

/-- (palantype/mend.meanings).sense -/
def v54 : Code :=
  (.seq (.region [⟨some 4, .newNil 79 2, none⟩] [0, 1, 4])
  (.seq (.seq (.region [⟨some 9, .mv (.t 1), none⟩, ⟨some 10, .len (.t 9), none⟩, ⟨some 11, .mv (.con (.int .i64 0)), none⟩] [0, 4, 9, 10, 11])
  (.block 0 (.loop [0, 4, 9, 10, 11] (.seq (.region [⟨some 12, .cmp .lss (.t 11) (.t 10), none⟩] [0, 4, 9, 10, 11, 12])
    (.seq (.cond (.t 12) .skip (.exit 0))
    (.seq (.block 1 (.seq (.region [⟨some 13, .indexAddr 1 (.t 9) (.t 11), none⟩, ⟨some 14, .load false 1 (.t 13), none⟩, ⟨some 6, .mv (.t 14), none⟩] [0, 4, 6, 9, 10, 11])
     (.seq (.region [⟨some 16, .mv (.t 0), none⟩, ⟨some 17, .mv (.t 6), none⟩, ⟨some 18, .call 1 80 [.t 16, .t 17], none⟩, ⟨some 15, .mv (.t 18), none⟩, ⟨some 19, .extract (.t 15) 0, none⟩, ⟨some 20, .extract (.t 15) 1, none⟩, ⟨some 7, .alloc [.d (.int .u8 0), .d (.int .i64 0)], none⟩, ⟨none, .store true 2 (.t 7) (.t 19), none⟩, ⟨some 8, .mv (.t 20), none⟩] [0, 4, 7, 8, 9, 10, 11])
     (.seq (.region [⟨some 21, .mv (.t 8), none⟩] [0, 4, 7, 9, 10, 11, 21])
     (.cond (.t 21) (.region [⟨some 22, .mv (.t 4), none⟩, ⟨some 23, .load true 2 (.t 7), none⟩, ⟨some 24, .buildSlice 79 2 [.t 23], none⟩, ⟨some 25, .append 79 2 16 (.t 22) (.t 24), none⟩, ⟨some 4, .mv (.t 25), none⟩] [0, 4, 9, 10, 11]) .skip)))))
    (.region [⟨some 26, .arith .add .i64 (.t 11) (.con (.int .i64 1)), none⟩, ⟨some 11, .mv (.t 26), none⟩] [0, 4, 9, 10, 11])))))))
  (.seq (.region [⟨some 27, .mv (.t 4), none⟩, ⟨some 4, .mv (.t 27), none⟩] [4])
  .ret)))
def r54 : List Res := [.tmp 4]

/-- palantype/palantyperef04.Texts -/
def v55 : Code :=
  (.seq (.region [⟨some 4, .mv (.con (.bool false)), none⟩] [0, 1])
  (.seq (.seq (.region [⟨some 5, .mv (.con (.int .i64 0)), none⟩] [0, 1, 5])
  (.block 0 (.loop [0, 1, 5] (.seq (.seq (.region [⟨some 6, .mv (.t 5), none⟩, ⟨some 7, .mv (.t 0), none⟩, ⟨some 8, .len (.t 7), none⟩, ⟨some 9, .cmp .lss (.t 6) (.t 8), none⟩] [0, 1, 5, 9])
    (.cond (.t 9) .skip (.exit 0)))
    (.seq (.block 1 (.seq (.region [⟨some 12, .mv (.t 0), none⟩, ⟨some 13, .mv (.t 5), none⟩, ⟨some 14, .indexAddr 1 (.t 12) (.t 13), none⟩, ⟨some 15, .load false 1 (.t 14), none⟩, ⟨some 16, .call 1 60 [.t 15], none⟩, ⟨some 17, .not (.t 16), none⟩] [0, 1, 5, 17])
     (.cond (.t 17) (.seq (.region [⟨some 4, .mv (.con (.bool false)), none⟩] [4])
      .ret) .skip)))
    (.region [⟨some 10, .mv (.t 5), none⟩, ⟨some 11, .arith .add .i64 (.t 10) (.con (.int .i64 1)), none⟩, ⟨some 5, .mv (.t 11), none⟩] [0, 1, 5]))))))
  (.seq (.region [⟨some 18, .mv (.t 0), none⟩, ⟨some 19, .len (.t 18), none⟩, ⟨some 20, .mv (.t 1), none⟩, ⟨some 21, .cmp .leq (.t 19) (.t 20), none⟩, ⟨some 4, .mv (.t 21), none⟩] [4])
  .ret)))
def r55 : List Res := [.tmp 4]

/-- palantype/palantyperef04.becomes -/
def v56 : Code :=
  (.seq (.region [⟨some 4, .box (.t 1), none⟩, ⟨some 5, .box (.t 2), none⟩, ⟨some 6, .mv (.con (.bool false)), none⟩] [0, 4, 5])
  (.seq (.seq (.region [⟨some 9, .load true 2 (.t 4), none⟩, ⟨some 10, .load true 2 (.t 5), none⟩, ⟨some 11, .aggEq false [0, 0] (.t 9) (.t 10), none⟩] [0, 4, 5, 11])
  (.cond (.t 11) (.seq (.region [⟨some 6, .mv (.con (.bool true)), none⟩] [6])
   .ret) .skip))
  (.seq (.seq (.region [⟨some 7, .mv (.con (.int .i64 0)), none⟩] [0, 4, 5, 7])
  (.block 0 (.loop [0, 4, 5, 7] (.seq (.seq (.region [⟨some 12, .mv (.t 7), none⟩, ⟨some 13, .mv (.t 0), none⟩, ⟨some 14, .len (.t 13), none⟩, ⟨some 15, .cmp .lss (.t 12) (.t 14), none⟩] [0, 4, 5, 7, 15])
    (.cond (.t 15) .skip (.exit 0)))
    (.seq (.block 1 (.seq (.region [⟨some 18, .mv (.t 0), none⟩, ⟨some 19, .mv (.t 7), none⟩, ⟨some 20, .indexAddr 3 (.t 18) (.t 19), none⟩, ⟨some 21, .load true 3 (.t 20), none⟩, ⟨some 8, .alloc [.d (.int .u8 0), .d (.int .i64 0), .d (.int .i64 0)], none⟩, ⟨none, .store true 3 (.t 8) (.t 21), none⟩] [0, 4, 5, 7, 8])
     (.seq (.region [⟨some 22, .fieldAddr 0 (.t 4), none⟩, ⟨some 23, .load false 1 (.t 22), none⟩, ⟨some 24, .fieldAddr 0 (.t 5), none⟩, ⟨some 25, .load false 1 (.t 24), none⟩, ⟨some 26, .cmp .eql (.t 23) (.t 25), none⟩, ⟨some 27, .mv (.t 26), none⟩, ⟨some 28, .fieldAddr 0 (.t 8), some (27, true)⟩, ⟨some 29, .load false 1 (.t 28), some (27, true)⟩, ⟨some 30, .fieldAddr 0 (.t 4), some (27, true)⟩, ⟨some 31, .load false 1 (.t 30), some (27, true)⟩, ⟨some 32, .cmp .eql (.t 29) (.t 31), some (27, true)⟩, ⟨some 33, .pick (.t 27) (.t 32) (.con (.bool false)), none⟩, ⟨some 34, .mv (.t 33), none⟩, ⟨some 35, .fieldAddr 1 (.t 8), some (34, true)⟩, ⟨some 36, .load false 1 (.t 35), some (34, true)⟩, ⟨some 37, .fieldAddr 1 (.t 4), some (34, true)⟩, ⟨some 38, .load false 1 (.t 37), some (34, true)⟩, ⟨some 39, .cmp .eql (.t 36) (.t 38), some (34, true)⟩, ⟨some 40, .pick (.t 34) (.t 39) (.con (.bool false)), none⟩, ⟨some 41, .mv (.t 40), none⟩, ⟨some 42, .fieldAddr 2 (.t 8), some (41, true)⟩, ⟨some 43, .load false 1 (.t 42), some (41, true)⟩, ⟨some 44, .fieldAddr 1 (.t 5), some (41, true)⟩, ⟨some 45, .load false 1 (.t 44), some (41, true)⟩, ⟨some 46, .cmp .eql (.t 43) (.t 45), some (41, true)⟩, ⟨some 47, .pick (.t 41) (.t 46) (.con (.bool false)), none⟩] [0, 4, 5, 7, 47])
     (.cond (.t 47) (.seq (.region [⟨some 6, .mv (.con (.bool true)), none⟩] [6])
      .ret) .skip))))
    (.region [⟨some 16, .mv (.t 7), none⟩, ⟨some 17, .arith .add .i64 (.t 16) (.con (.int .i64 1)), none⟩, ⟨some 7, .mv (.t 17), none⟩] [0, 4, 5, 7]))))))
  (.seq (.region [⟨some 6, .mv (.con (.bool false)), none⟩] [6])
  .ret))))
def r56 : List Res := [.tmp 6]

/-- palantype/palantyperef04.Means -/
def v57 : Code :=
  (.seq (.region [⟨some 2, .box (.t 0), none⟩, ⟨some 4, .alloc [.d (.int .u8 0), .d (.int .i64 0)], none⟩] [1, 2, 4])
  (.seq (.seq (.region [⟨some 5, .mv (.con (.int .i64 0)), none⟩] [1, 2, 4, 5])
  (.block 0 (.loop [1, 2, 4, 5] (.seq (.seq (.region [⟨some 10, .mv (.t 5), none⟩, ⟨some 11, .fieldAddr 0 (.t 2), none⟩, ⟨some 12, .load false 1 (.t 11), none⟩, ⟨some 13, .len (.t 12), none⟩, ⟨some 14, .cmp .lss (.t 10) (.t 13), none⟩] [1, 2, 4, 5, 14])
    (.cond (.t 14) .skip (.exit 0)))
    (.seq (.block 1 (.seq (.region [⟨some 17, .fieldAddr 0 (.t 2), none⟩, ⟨some 18, .load false 1 (.t 17), none⟩, ⟨some 19, .mv (.t 5), none⟩, ⟨some 20, .indexAddr 2 (.t 18) (.t 19), none⟩, ⟨some 21, .fieldAddr 0 (.t 20), none⟩, ⟨some 22, .load false 1 (.t 21), none⟩, ⟨some 23, .mv (.t 1), none⟩, ⟨some 24, .strOp .eql (.t 22) (.t 23), none⟩] [1, 2, 4, 5, 24])
     (.cond (.t 24) (.seq (.region [⟨some 25, .fieldAddr 0 (.t 2), none⟩, ⟨some 26, .load false 1 (.t 25), none⟩, ⟨some 27, .mv (.t 5), none⟩, ⟨some 28, .indexAddr 2 (.t 26) (.t 27), none⟩, ⟨some 29, .fieldAddr 1 (.t 28), none⟩, ⟨some 30, .load false 1 (.t 29), none⟩, ⟨some 31, .build [.d (.int .u8 0), .d (.int .i64 0)] [(0, 1, .con (.int .u8 1)), (1, 1, .t 30)], none⟩, ⟨none, .store true 2 (.t 4) (.t 31), none⟩] [4])
      .ret) .skip)))
    (.region [⟨some 15, .mv (.t 5), none⟩, ⟨some 16, .arith .add .i64 (.t 15) (.con (.int .i64 1)), none⟩, ⟨some 5, .mv (.t 16), none⟩] [1, 2, 4, 5]))))))
  (.seq (.seq (.region [⟨some 6, .mv (.con (.int .i64 0)), none⟩] [1, 2, 4, 6])
  (.block 2 (.loop [1, 2, 4, 6] (.seq (.seq (.region [⟨some 32, .mv (.t 6), none⟩, ⟨some 33, .fieldAddr 1 (.t 2), none⟩, ⟨some 34, .load false 1 (.t 33), none⟩, ⟨some 35, .len (.t 34), none⟩, ⟨some 36, .cmp .lss (.t 32) (.t 35), none⟩] [1, 2, 4, 6, 36])
    (.cond (.t 36) .skip (.exit 2)))
    (.seq (.block 3 (.seq (.region [⟨some 7, .mv (.con (.int .i64 0)), none⟩] [1, 2, 4, 6, 7])
     (.block 4 (.loop [1, 2, 4, 6, 7] (.seq (.seq (.region [⟨some 39, .mv (.t 7), none⟩, ⟨some 40, .fieldAddr 1 (.t 2), none⟩, ⟨some 41, .load false 1 (.t 40), none⟩, ⟨some 42, .mv (.t 6), none⟩, ⟨some 43, .indexAddr 1 (.t 41) (.t 42), none⟩, ⟨some 44, .load false 1 (.t 43), none⟩, ⟨some 45, .len (.t 44), none⟩, ⟨some 46, .cmp .lss (.t 39) (.t 45), none⟩] [1, 2, 4, 6, 7, 46])
       (.cond (.t 46) .skip (.exit 4)))
       (.seq (.block 5 (.seq (.region [⟨some 49, .fieldAddr 1 (.t 2), none⟩, ⟨some 50, .load false 1 (.t 49), none⟩, ⟨some 51, .mv (.t 6), none⟩, ⟨some 52, .indexAddr 1 (.t 50) (.t 51), none⟩, ⟨some 53, .load false 1 (.t 52), none⟩, ⟨some 54, .mv (.t 7), none⟩, ⟨some 55, .indexAddr 1 (.t 53) (.t 54), none⟩, ⟨some 56, .load false 1 (.t 55), none⟩, ⟨some 57, .mv (.t 1), none⟩, ⟨some 58, .strOp .eql (.t 56) (.t 57), none⟩] [1, 2, 4, 6, 7, 58])
        (.cond (.t 58) (.seq (.region [⟨some 59, .mv (.t 6), none⟩, ⟨some 60, .build [.d (.int .u8 0), .d (.int .i64 0)] [(0, 1, .con (.int .u8 2)), (1, 1, .t 59)], none⟩, ⟨none, .store true 2 (.t 4) (.t 60), none⟩] [4])
         .ret) .skip)))
       (.region [⟨some 47, .mv (.t 7), none⟩, ⟨some 48, .arith .add .i64 (.t 47) (.con (.int .i64 1)), none⟩, ⟨some 7, .mv (.t 48), none⟩] [1, 2, 4, 6, 7])))))))
    (.region [⟨some 37, .mv (.t 6), none⟩, ⟨some 38, .arith .add .i64 (.t 37) (.con (.int .i64 1)), none⟩, ⟨some 6, .mv (.t 38), none⟩] [1, 2, 4, 6]))))))
  (.seq (.seq (.region [⟨some 8, .mv (.con (.int .i64 0)), none⟩] [1, 2, 4, 8])
  (.block 6 (.loop [1, 2, 4, 8] (.seq (.seq (.region [⟨some 61, .mv (.t 8), none⟩, ⟨some 62, .fieldAddr 2 (.t 2), none⟩, ⟨some 63, .load false 1 (.t 62), none⟩, ⟨some 64, .len (.t 63), none⟩, ⟨some 65, .cmp .lss (.t 61) (.t 64), none⟩] [1, 2, 4, 8, 65])
    (.cond (.t 65) .skip (.exit 6)))
    (.seq (.block 7 (.seq (.region [⟨some 68, .fieldAddr 2 (.t 2), none⟩, ⟨some 69, .load false 1 (.t 68), none⟩, ⟨some 70, .mv (.t 8), none⟩, ⟨some 71, .indexAddr 1 (.t 69) (.t 70), none⟩, ⟨some 72, .load false 1 (.t 71), none⟩, ⟨some 73, .mv (.t 1), none⟩, ⟨some 74, .strOp .eql (.t 72) (.t 73), none⟩] [1, 2, 4, 8, 74])
     (.cond (.t 74) (.seq (.region [⟨some 75, .build [.d (.int .u8 0), .d (.int .i64 0)] [(0, 1, .con (.int .u8 3)), (1, 1, .con (.int .i64 0))], none⟩, ⟨none, .store true 2 (.t 4) (.t 75), none⟩] [4])
      .ret) .skip)))
    (.region [⟨some 66, .mv (.t 8), none⟩, ⟨some 67, .arith .add .i64 (.t 66) (.con (.int .i64 1)), none⟩, ⟨some 8, .mv (.t 67), none⟩] [1, 2, 4, 8]))))))
  (.seq (.seq (.region [⟨some 76, .mv (.t 1), none⟩, ⟨some 77, .call 1 81 [.t 76], none⟩, ⟨some 9, .mv (.t 77), none⟩] [4, 9])
  (.seq (.region [⟨some 78, .mv (.t 9), none⟩, ⟨some 79, .cmp .geq (.t 78) (.con (.int .i64 0)), none⟩] [4, 9, 79])
  (.cond (.t 79) (.seq (.region [⟨some 80, .mv (.t 9), none⟩, ⟨some 81, .build [.d (.int .u8 0), .d (.int .i64 0)] [(0, 1, .con (.int .u8 1)), (1, 1, .t 80)], none⟩, ⟨none, .store true 2 (.t 4) (.t 81), none⟩] [4])
   .ret) .skip)))
  (.seq (.region [⟨some 82, .build [.d (.int .u8 0), .d (.int .i64 0)] [], none⟩, ⟨none, .store true 2 (.t 4) (.t 82), none⟩] [4])
  .ret))))))
def r57 : List Res := [.cell 4 true 2]

/-- The rounds of (palantype/mend.Lexicon).read. -/
def va58 : Code :=
  (.seq (.region [⟨some 8, .mv (.t 53), none⟩] [2, 3, 7, 8, 54])
    (.region [⟨some 9, .alloc [.d (.int .u8 0), .d (.int .i64 0)], none⟩, ⟨none, .store true 2 (.t 9) (.t 54), none⟩] [2, 3, 7, 8, 9]))
def vb58 : Code :=
  (.block 1 (.seq (.seq (.region [⟨some 56, .load false 1 (.t 7), none⟩, ⟨some 57, .mv (.t 8), none⟩, ⟨some 58, .lookup 2 true [.int .u8 0, .int .i64 0] (.t 56) (.t 57), none⟩, ⟨some 55, .mv (.t 58), none⟩, ⟨some 59, .extract (.t 55) 0, none⟩, ⟨some 60, .extract (.t 55) 1, none⟩, ⟨some 10, .alloc [.d (.int .u8 0), .d (.int .i64 0)], none⟩, ⟨none, .store true 2 (.t 10) (.t 59), none⟩, ⟨some 11, .mv (.t 60), none⟩] [2, 3, 7, 8, 9, 11])
     (.seq (.region [⟨some 61, .mv (.t 11), none⟩] [2, 3, 7, 8, 9, 61])
     (.cond (.t 61) (.seq (.region [⟨none, .store false 1 (.t 2) (.con .map0), none⟩, ⟨none, .store false 1 (.t 3) (.con (.int .i64 6)), none⟩] [2, 3])
      .ret) .skip)))
     (.region [⟨some 62, .load false 1 (.t 7), none⟩, ⟨some 63, .mv (.t 8), none⟩, ⟨some 64, .load true 2 (.t 9), none⟩, ⟨none, .mapSet 2 (.t 62) (.t 63) (.t 64), none⟩] [])))

/-- (palantype/mend.Lexicon).listed$1, for (palantype/mend.Lexicon).read -/
def v111_58 : Code :=
  (.seq (.seq (.region [⟨some 11, .fieldAddr 0 (.t 1), none⟩, ⟨some 12, .load false 1 (.t 11), none⟩, ⟨some 13, .len (.t 12), none⟩, ⟨some 14, .mv (.con (.int .i64 0)), none⟩] [0, 1, 12, 13, 14])
  (.block 0 (.loop [0, 1, 12, 13, 14] (.seq (.region [⟨some 15, .cmp .lss (.t 14) (.t 13), none⟩] [0, 1, 12, 13, 14, 15])
    (.seq (.cond (.t 15) .skip (.exit 0))
    (.seq (.block 1 (.seq (.region [⟨some 16, .indexAddr 2 (.t 12) (.t 14), none⟩, ⟨some 17, .load true 2 (.t 16), none⟩, ⟨some 4, .alloc [.d (.str ⟨#[]⟩), .d (.int .i64 0)], none⟩, ⟨none, .store true 2 (.t 4) (.t 17), none⟩] [0, 1, 4, 12, 13, 14])
     (.seq (.yld [⟨some 18, .mv (.t 0), none⟩, ⟨some 19, .fieldAddr 0 (.t 4), none⟩, ⟨some 20, .load false 1 (.t 19), none⟩, ⟨some 21, .fieldAddr 1 (.t 4), none⟩, ⟨some 22, .load false 1 (.t 21), none⟩, ⟨some 23, .build [.d (.int .u8 0), .d (.int .i64 0)] [(0, 1, .con (.int .u8 1)), (1, 1, .t 22)], none⟩] (some 24) (.t 18) [.t 20, .t 23] [53, 54] va58 vb58 [⟨some 25, .not (.t 24), none⟩] [0, 1, 12, 13, 14, 25])
     (.cond (.t 25) .ret .skip))))
    (.region [⟨some 26, .arith .add .i64 (.t 14) (.con (.int .i64 1)), none⟩, ⟨some 14, .mv (.t 26), none⟩] [0, 1, 12, 13, 14])))))))
  (.seq (.seq (.region [⟨some 27, .fieldAddr 1 (.t 1), none⟩, ⟨some 28, .load false 1 (.t 27), none⟩, ⟨some 29, .len (.t 28), none⟩, ⟨some 30, .mv (.con (.int .i64 0)), none⟩] [0, 1, 28, 29, 30])
  (.block 2 (.loop [0, 1, 28, 29, 30] (.seq (.region [⟨some 31, .cmp .lss (.t 30) (.t 29), none⟩] [0, 1, 28, 29, 30, 31])
    (.seq (.cond (.t 31) .skip (.exit 2))
    (.seq (.block 3 (.seq (.region [⟨some 32, .mv (.t 30), none⟩, ⟨some 33, .indexAddr 1 (.t 28) (.t 30), none⟩, ⟨some 34, .load false 1 (.t 33), none⟩, ⟨some 5, .mv (.t 32), none⟩, ⟨some 6, .mv (.t 34), none⟩] [0, 1, 5, 6, 28, 29, 30])
     (.seq (.region [⟨some 35, .mv (.t 6), none⟩, ⟨some 36, .len (.t 35), none⟩, ⟨some 37, .mv (.con (.int .i64 0)), none⟩] [0, 1, 5, 28, 29, 30, 35, 36, 37])
     (.block 4 (.loop [0, 1, 5, 28, 29, 30, 35, 36, 37] (.seq (.region [⟨some 38, .cmp .lss (.t 37) (.t 36), none⟩] [0, 1, 5, 28, 29, 30, 35, 36, 37, 38])
       (.seq (.cond (.t 38) .skip (.exit 4))
       (.seq (.block 5 (.seq (.region [⟨some 39, .indexAddr 1 (.t 35) (.t 37), none⟩, ⟨some 40, .load false 1 (.t 39), none⟩, ⟨some 8, .mv (.t 40), none⟩] [0, 1, 5, 8, 28, 29, 30, 35, 36, 37])
        (.seq (.yld [⟨some 41, .mv (.t 0), none⟩, ⟨some 42, .mv (.t 8), none⟩, ⟨some 43, .mv (.t 5), none⟩, ⟨some 44, .build [.d (.int .u8 0), .d (.int .i64 0)] [(0, 1, .con (.int .u8 2)), (1, 1, .t 43)], none⟩] (some 45) (.t 41) [.t 42, .t 44] [53, 54] va58 vb58 [⟨some 46, .not (.t 45), none⟩] [0, 1, 5, 28, 29, 30, 35, 36, 37, 46])
        (.cond (.t 46) .ret .skip))))
       (.region [⟨some 47, .arith .add .i64 (.t 37) (.con (.int .i64 1)), none⟩, ⟨some 37, .mv (.t 47), none⟩] [0, 1, 5, 28, 29, 30, 35, 36, 37])))))))))
    (.region [⟨some 48, .arith .add .i64 (.t 30) (.con (.int .i64 1)), none⟩, ⟨some 30, .mv (.t 48), none⟩] [0, 1, 28, 29, 30])))))))
  (.seq (.region [⟨some 49, .fieldAddr 2 (.t 1), none⟩, ⟨some 50, .load false 1 (.t 49), none⟩, ⟨some 51, .len (.t 50), none⟩, ⟨some 52, .mv (.con (.int .i64 0)), none⟩] [0, 50, 51, 52])
  (.block 6 (.loop [0, 50, 51, 52] (.seq (.region [⟨some 53, .cmp .lss (.t 52) (.t 51), none⟩] [0, 50, 51, 52, 53])
    (.seq (.cond (.t 53) .skip (.exit 6))
    (.seq (.block 7 (.seq (.region [⟨some 54, .indexAddr 1 (.t 50) (.t 52), none⟩, ⟨some 55, .load false 1 (.t 54), none⟩, ⟨some 10, .mv (.t 55), none⟩] [0, 10, 50, 51, 52])
     (.seq (.yld [⟨some 56, .mv (.t 0), none⟩, ⟨some 57, .mv (.t 10), none⟩, ⟨some 58, .build [.d (.int .u8 0), .d (.int .i64 0)] [(0, 1, .con (.int .u8 3)), (1, 1, .con (.int .i64 0))], none⟩] (some 59) (.t 56) [.t 57, .t 58] [53, 54] va58 vb58 [⟨some 60, .not (.t 59), none⟩] [0, 50, 51, 52, 60])
     (.cond (.t 60) .ret .skip))))
    (.region [⟨some 61, .arith .add .i64 (.t 52) (.con (.int .i64 1)), none⟩, ⟨some 52, .mv (.t 61), none⟩] [0, 50, 51, 52])))))))))

/-- (palantype/mend.Lexicon).read -/
def v58 : Code :=
  (.seq (.region [⟨some 1, .box (.t 0), none⟩, ⟨some 2, .alloc [.d (.map0)], none⟩, ⟨some 3, .alloc [.d (.int .i64 0)], none⟩] [1, 2, 3])
  (.seq (.region [⟨some 4, .mv (.con (.fn 82 [] [])), none⟩] [1, 2, 3, 4])
  (.seq (.region [⟨some 5, .mv (.con (.fn 83 [] [])), none⟩] [1, 2, 3, 4, 5])
  (.seq (.region [⟨some 12, .fieldAddr 0 (.t 1), none⟩, ⟨some 13, .load false 1 (.t 12), none⟩, ⟨some 14, .len (.t 13), none⟩, ⟨some 15, .cmp .leq (.t 14) (.con (.int .i64 40)), none⟩, ⟨some 16, .mv (.t 15), none⟩, ⟨some 17, .fieldAddr 1 (.t 1), some (16, true)⟩, ⟨some 18, .load false 1 (.t 17), some (16, true)⟩, ⟨some 19, .len (.t 18), some (16, true)⟩, ⟨some 20, .cmp .leq (.t 19) (.con (.int .i64 40)), some (16, true)⟩, ⟨some 21, .pick (.t 16) (.t 20) (.con (.bool false)), none⟩, ⟨some 22, .mv (.t 21), none⟩, ⟨some 23, .fieldAddr 2 (.t 1), some (22, true)⟩, ⟨some 24, .load false 1 (.t 23), some (22, true)⟩, ⟨some 25, .len (.t 24), some (22, true)⟩, ⟨some 26, .cmp .leq (.t 25) (.con (.int .i64 40)), some (22, true)⟩, ⟨some 27, .pick (.t 22) (.t 26) (.con (.bool false)), none⟩, ⟨some 6, .mv (.t 27), none⟩] [1, 2, 3, 4, 5, 6])
  (.seq (.seq (.region [⟨some 28, .mv (.t 6), none⟩, ⟨some 29, .not (.t 28), none⟩, ⟨some 30, .mv (.t 29), none⟩, ⟨some 31, .fieldAddr 0 (.t 1), some (30, false)⟩, ⟨some 32, .load false 1 (.t 31), some (30, false)⟩, ⟨some 33, .mv (.t 4), some (30, false)⟩, ⟨some 34, .call 1 85 [.t 32, .t 33], some (30, false)⟩, ⟨some 35, .not (.t 34), some (30, false)⟩, ⟨some 36, .pick (.t 30) (.con (.bool true)) (.t 35), none⟩, ⟨some 37, .mv (.t 36), none⟩, ⟨some 38, .fieldAddr 1 (.t 1), some (37, false)⟩, ⟨some 39, .load false 1 (.t 38), some (37, false)⟩, ⟨some 40, .mv (.t 5), some (37, false)⟩, ⟨some 41, .call 1 74 [.t 39, .t 40], some (37, false)⟩, ⟨some 42, .not (.t 41), some (37, false)⟩, ⟨some 43, .pick (.t 37) (.con (.bool true)) (.t 42), none⟩, ⟨some 44, .mv (.t 43), none⟩, ⟨some 45, .fieldAddr 2 (.t 1), some (44, false)⟩, ⟨some 46, .load false 1 (.t 45), some (44, false)⟩, ⟨some 47, .call 1 77 [.t 46, .con (.fn 78 [] [])], some (44, false)⟩, ⟨some 48, .not (.t 47), some (44, false)⟩, ⟨some 49, .pick (.t 44) (.con (.bool true)) (.t 48), none⟩] [1, 2, 3, 49])
  (.cond (.t 49) (.seq (.region [⟨none, .store false 1 (.t 2) (.con .map0), none⟩, ⟨none, .store false 1 (.t 3) (.con (.int .i64 1)), none⟩] [2, 3])
   .ret) .skip))
  (.seq (.region [⟨some 50, .makeMap 2, none⟩, ⟨some 7, .alloc [.d (.map0)], none⟩, ⟨none, .store false 1 (.t 7) (.t 50), none⟩] [1, 2, 3, 7])
  (.seq (.seq (.region [⟨some 51, .load true 3 (.t 1), none⟩, ⟨some 52, .call 0 86 [.t 51], none⟩] [2, 3, 7, 52])
  (.block 0 (.iter (.t 52) 111 2 v111_58 [2, 3, 7])))
  (.seq (.region [⟨some 65, .load false 1 (.t 7), none⟩, ⟨none, .store false 1 (.t 2) (.t 65), none⟩, ⟨none, .store false 1 (.t 3) (.con (.int .i64 0)), none⟩] [2, 3])
  .ret))))))))
def r58 : List Res := [.cell 2 false 1, .cell 3 false 1]

/-- palantype/palantyperef04.Text -/
def v60 : Code :=
  (.seq (.region [⟨some 2, .mv (.con (.bool false)), none⟩] [0])
  (.seq (.seq (.region [⟨some 3, .mv (.con (.int .i64 0)), none⟩] [0, 3])
  (.block 0 (.loop [0, 3] (.seq (.seq (.region [⟨some 4, .mv (.t 3), none⟩, ⟨some 5, .mv (.t 0), none⟩, ⟨some 6, .lenStr (.t 5), none⟩, ⟨some 7, .cmp .lss (.t 4) (.t 6), none⟩] [0, 3, 7])
    (.cond (.t 7) .skip (.exit 0)))
    (.seq (.block 1 (.seq (.region [⟨some 10, .mv (.t 0), none⟩, ⟨some 11, .mv (.t 3), none⟩, ⟨some 12, .indexStr (.t 10) (.t 11), none⟩, ⟨some 13, .cmp .lss (.t 12) (.con (.int .u8 33)), none⟩, ⟨some 14, .mv (.t 13), none⟩, ⟨some 15, .mv (.t 0), some (14, false)⟩, ⟨some 16, .mv (.t 3), some (14, false)⟩, ⟨some 17, .indexStr (.t 15) (.t 16), some (14, false)⟩, ⟨some 18, .cmp .gtr (.t 17) (.con (.int .u8 126)), some (14, false)⟩, ⟨some 19, .pick (.t 14) (.con (.bool true)) (.t 18), none⟩] [0, 3, 19])
     (.cond (.t 19) (.seq (.region [⟨some 2, .mv (.con (.bool false)), none⟩] [2])
      .ret) .skip)))
    (.region [⟨some 8, .mv (.t 3), none⟩, ⟨some 9, .arith .add .i64 (.t 8) (.con (.int .i64 1)), none⟩, ⟨some 3, .mv (.t 9), none⟩] [0, 3]))))))
  (.seq (.region [⟨some 20, .mv (.t 0), none⟩, ⟨some 21, .lenStr (.t 20), none⟩, ⟨some 22, .call 1 28 [.t 21, .con (.int .i64 1), .con (.int .i64 32)], none⟩, ⟨some 2, .mv (.t 22), none⟩] [2])
  .ret)))
def r60 : List Res := [.tmp 2]

/-- (palantype/mend.Report).check -/
def v61 : Code :=
  (.seq (.region [⟨some 1, .box (.t 0), none⟩, ⟨some 2, .mv (.con (.int .i64 0)), none⟩] [1])
  (.seq (.region [⟨some 3, .mv (.con (.fn 91 [] [])), none⟩] [1, 3])
  (.seq (.seq (.region [⟨some 4, .fieldAddr 0 (.t 1), none⟩, ⟨some 5, .load false 1 (.t 4), none⟩, ⟨some 6, .len (.t 5), none⟩, ⟨some 7, .cmp .gtr (.t 6) (.con (.int .i64 80)), none⟩, ⟨some 8, .mv (.t 7), none⟩, ⟨some 9, .fieldAddr 0 (.t 1), some (8, false)⟩, ⟨some 10, .load false 1 (.t 9), some (8, false)⟩, ⟨some 11, .mv (.t 3), some (8, false)⟩, ⟨some 12, .call 1 92 [.t 10, .t 11], some (8, false)⟩, ⟨some 13, .not (.t 12), some (8, false)⟩, ⟨some 14, .pick (.t 8) (.con (.bool true)) (.t 13), none⟩, ⟨some 15, .mv (.t 14), none⟩, ⟨some 16, .fieldAddr 1 (.t 1), some (15, false)⟩, ⟨some 17, .load false 1 (.t 16), some (15, false)⟩, ⟨some 18, .call 1 84 [.t 17, .con (.int .i64 0), .con (.int .i64 100000)], some (15, false)⟩, ⟨some 19, .not (.t 18), some (15, false)⟩, ⟨some 20, .pick (.t 15) (.con (.bool true)) (.t 19), none⟩, ⟨some 21, .mv (.t 20), none⟩, ⟨some 22, .fieldAddr 2 (.t 1), some (21, false)⟩, ⟨some 23, .load false 1 (.t 22), some (21, false)⟩, ⟨some 24, .call 1 84 [.t 23, .con (.int .i64 0), .con (.int .i64 100000)], some (21, false)⟩, ⟨some 25, .not (.t 24), some (21, false)⟩, ⟨some 26, .pick (.t 21) (.con (.bool true)) (.t 25), none⟩] [26])
  (.cond (.t 26) (.seq (.region [⟨some 2, .mv (.con (.int .i64 1)), none⟩] [2])
   .ret) .skip))
  (.seq (.region [⟨some 2, .mv (.con (.int .i64 0)), none⟩] [2])
  .ret))))
def r61 : List Res := [.tmp 2]

/-- palantype/palantyperef04.sooner -/
def v62 : Code :=
  (.seq (.region [⟨some 6, .mv (.con (.bool false)), none⟩] [0, 1, 2])
  (.seq (.seq (.region [⟨some 7, .mv (.t 0), none⟩, ⟨some 8, .mv (.t 1), none⟩, ⟨some 9, .indexAddr 5 (.t 7) (.t 8), none⟩, ⟨some 10, .fieldAddr 1 (.t 9), none⟩, ⟨some 11, .load false 1 (.t 10), none⟩, ⟨some 12, .mv (.t 0), none⟩, ⟨some 13, .mv (.t 2), none⟩, ⟨some 14, .indexAddr 5 (.t 12) (.t 13), none⟩, ⟨some 15, .fieldAddr 1 (.t 14), none⟩, ⟨some 16, .load false 1 (.t 15), none⟩, ⟨some 17, .cmp .neq (.t 11) (.t 16), none⟩] [0, 1, 2, 17])
  (.cond (.t 17) (.seq (.region [⟨some 18, .mv (.t 0), none⟩, ⟨some 19, .mv (.t 1), none⟩, ⟨some 20, .indexAddr 5 (.t 18) (.t 19), none⟩, ⟨some 21, .fieldAddr 1 (.t 20), none⟩, ⟨some 22, .load false 1 (.t 21), none⟩, ⟨some 23, .mv (.t 0), none⟩, ⟨some 24, .mv (.t 2), none⟩, ⟨some 25, .indexAddr 5 (.t 23) (.t 24), none⟩, ⟨some 26, .fieldAddr 1 (.t 25), none⟩, ⟨some 27, .load false 1 (.t 26), none⟩, ⟨some 28, .cmp .lss (.t 22) (.t 27), none⟩, ⟨some 6, .mv (.t 28), none⟩] [6])
   .ret) .skip))
  (.seq (.seq (.region [⟨some 29, .mv (.t 0), none⟩, ⟨some 30, .mv (.t 1), none⟩, ⟨some 31, .indexAddr 5 (.t 29) (.t 30), none⟩, ⟨some 32, .fieldAddr 0 (.t 31), none⟩, ⟨some 33, .load false 1 (.t 32), none⟩, ⟨some 34, .mv (.t 0), none⟩, ⟨some 35, .mv (.t 2), none⟩, ⟨some 36, .indexAddr 5 (.t 34) (.t 35), none⟩, ⟨some 37, .fieldAddr 0 (.t 36), none⟩, ⟨some 38, .load false 1 (.t 37), none⟩, ⟨some 39, .cmp .neq (.t 33) (.t 38), none⟩] [0, 1, 2, 39])
  (.cond (.t 39) (.seq (.region [⟨some 40, .mv (.t 0), none⟩, ⟨some 41, .mv (.t 1), none⟩, ⟨some 42, .indexAddr 5 (.t 40) (.t 41), none⟩, ⟨some 43, .fieldAddr 0 (.t 42), none⟩, ⟨some 44, .load false 1 (.t 43), none⟩, ⟨some 45, .mv (.t 0), none⟩, ⟨some 46, .mv (.t 2), none⟩, ⟨some 47, .indexAddr 5 (.t 45) (.t 46), none⟩, ⟨some 48, .fieldAddr 0 (.t 47), none⟩, ⟨some 49, .load false 1 (.t 48), none⟩, ⟨some 50, .cmp .lss (.t 44) (.t 49), none⟩, ⟨some 6, .mv (.t 50), none⟩] [6])
   .ret) .skip))
  (.seq (.region [⟨some 51, .mv (.t 1), none⟩, ⟨some 52, .mv (.t 2), none⟩, ⟨some 53, .cmp .lss (.t 51) (.t 52), none⟩, ⟨some 6, .mv (.t 53), none⟩] [6])
  .ret))))
def r62 : List Res := [.tmp 6]

/-- palantype/palantyperef04.Alone -/
def v63 : Code :=
  (.seq (.region [⟨some 4, .box (.t 0), none⟩, ⟨some 6, .box (.t 2), none⟩, ⟨some 7, .box (.t 3), none⟩, ⟨some 8, .mv (.con (.int .i64 0)), none⟩] [1, 4, 6, 7])
  (.seq (.seq (.region [⟨some 10, .fieldAddr 2 (.t 7), none⟩, ⟨some 11, .load false 1 (.t 10), none⟩, ⟨some 12, .cmp .lss (.t 11) (.con (.int .i64 0)), none⟩, ⟨some 13, .mv (.t 12), none⟩, ⟨some 14, .fieldAddr 3 (.t 7), some (13, false)⟩, ⟨some 15, .load false 1 (.t 14), some (13, false)⟩, ⟨some 16, .cmp .lss (.t 15) (.con (.int .i64 0)), some (13, false)⟩, ⟨some 17, .pick (.t 13) (.con (.bool true)) (.t 16), none⟩, ⟨some 18, .mv (.t 17), none⟩, ⟨some 19, .fieldAddr 2 (.t 7), some (18, false)⟩, ⟨some 20, .load false 1 (.t 19), some (18, false)⟩, ⟨some 21, .fieldAddr 0 (.t 6), some (18, false)⟩, ⟨some 22, .load false 1 (.t 21), some (18, false)⟩, ⟨some 23, .len (.t 22), some (18, false)⟩, ⟨some 24, .fieldAddr 3 (.t 7), some (18, false)⟩, ⟨some 25, .load false 1 (.t 24), some (18, false)⟩, ⟨some 26, .arith .sub .i64 (.t 23) (.t 25), some (18, false)⟩, ⟨some 27, .cmp .gtr (.t 20) (.t 26), some (18, false)⟩, ⟨some 28, .pick (.t 18) (.con (.bool true)) (.t 27), none⟩] [1, 4, 6, 7, 28])
  (.cond (.t 28) (.seq (.region [⟨some 8, .mv (.con (.int .i64 2)), none⟩] [8])
   .ret) .skip))
  (.seq (.seq (.region [⟨some 29, .fieldAddr 3 (.t 7), none⟩, ⟨some 30, .load false 1 (.t 29), none⟩, ⟨some 31, .cmp .gtr (.t 30) (.con (.int .i64 8)), none⟩, ⟨some 32, .mv (.t 31), none⟩, ⟨some 33, .fieldAddr 4 (.t 7), some (32, false)⟩, ⟨some 34, .load false 1 (.t 33), some (32, false)⟩, ⟨some 35, .call 1 55 [.t 34, .con (.int .i64 8)], some (32, false)⟩, ⟨some 36, .not (.t 35), some (32, false)⟩, ⟨some 37, .pick (.t 32) (.con (.bool true)) (.t 36), none⟩, ⟨some 38, .mv (.t 37), none⟩, ⟨some 39, .fieldAddr 3 (.t 7), some (38, false)⟩, ⟨some 40, .load false 1 (.t 39), some (38, false)⟩, ⟨some 41, .cmp .eql (.t 40) (.con (.int .i64 0)), some (38, false)⟩, ⟨some 42, .mv (.t 41), some (38, false)⟩, ⟨some 43, .fieldAddr 4 (.t 7), some (42, true)⟩, ⟨some 44, .load false 1 (.t 43), some (42, true)⟩, ⟨some 45, .len (.t 44), some (42, true)⟩, ⟨some 46, .cmp .eql (.t 45) (.con (.int .i64 0)), some (42, true)⟩, ⟨some 47, .pick (.t 42) (.t 46) (.con (.bool false)), some (38, false)⟩, ⟨some 48, .pick (.t 38) (.con (.bool true)) (.t 47), none⟩, ⟨some 49, .mv (.t 48), none⟩, ⟨some 50, .fieldAddr 0 (.t 7), some (49, false)⟩, ⟨some 51, .load false 1 (.t 50), some (49, false)⟩, ⟨some 52, .call 1 28 [.t 51, .con (.int .i64 0), .con (.int .i64 999)], some (49, false)⟩, ⟨some 53, .not (.t 52), some (49, false)⟩, ⟨some 54, .pick (.t 49) (.con (.bool true)) (.t 53), none⟩] [1, 4, 6, 7, 54])
  (.cond (.t 54) (.seq (.region [⟨some 8, .mv (.con (.int .i64 1)), none⟩] [8])
   .ret) .skip))
  (.seq (.seq (.region [⟨some 55, .fieldAddr 3 (.t 7), none⟩, ⟨some 56, .load false 1 (.t 55), none⟩, ⟨some 57, .cmp .eql (.t 56) (.con (.int .i64 0)), none⟩, ⟨some 58, .mv (.t 57), none⟩, ⟨some 59, .load true 3 (.t 6), some (58, true)⟩, ⟨some 60, .fieldAddr 2 (.t 7), some (58, true)⟩, ⟨some 61, .load false 1 (.t 60), some (58, true)⟩, ⟨some 62, .arith .sub .i64 (.t 61) (.con (.int .i64 1)), some (58, true)⟩, ⟨some 63, .fieldAddr 0 (.t 7), some (58, true)⟩, ⟨some 64, .load false 1 (.t 63), some (58, true)⟩, ⟨some 65, .call 1 93 [.t 59, .t 62, .t 64], some (58, true)⟩, ⟨some 66, .not (.t 65), some (58, true)⟩, ⟨some 67, .pick (.t 58) (.t 66) (.con (.bool false)), none⟩, ⟨some 68, .mv (.t 67), none⟩, ⟨some 69, .load true 3 (.t 6), some (68, true)⟩, ⟨some 70, .fieldAddr 2 (.t 7), some (68, true)⟩, ⟨some 71, .load false 1 (.t 70), some (68, true)⟩, ⟨some 72, .fieldAddr 0 (.t 7), some (68, true)⟩, ⟨some 73, .load false 1 (.t 72), some (68, true)⟩, ⟨some 74, .call 1 93 [.t 69, .t 71, .t 73], some (68, true)⟩, ⟨some 75, .not (.t 74), some (68, true)⟩, ⟨some 76, .pick (.t 68) (.t 75) (.con (.bool false)), none⟩] [1, 4, 6, 7, 76])
  (.cond (.t 76) (.seq (.region [⟨some 8, .mv (.con (.int .i64 5)), none⟩] [8])
   .ret) .skip))
  (.seq (.seq (.region [⟨some 77, .fieldAddr 2 (.t 7), none⟩, ⟨some 78, .load false 1 (.t 77), none⟩, ⟨some 9, .mv (.t 78), none⟩] [1, 4, 6, 7, 9])
  (.block 0 (.loop [1, 4, 6, 7, 9] (.seq (.seq (.region [⟨some 79, .mv (.t 9), none⟩, ⟨some 80, .fieldAddr 2 (.t 7), none⟩, ⟨some 81, .load false 1 (.t 80), none⟩, ⟨some 82, .fieldAddr 3 (.t 7), none⟩, ⟨some 83, .load false 1 (.t 82), none⟩, ⟨some 84, .arith .add .i64 (.t 81) (.t 83), none⟩, ⟨some 85, .cmp .lss (.t 79) (.t 84), none⟩] [1, 4, 6, 7, 9, 85])
    (.cond (.t 85) .skip (.exit 0)))
    (.seq (.block 1 (.seq (.region [⟨some 88, .load true 3 (.t 6), none⟩, ⟨some 89, .mv (.t 9), none⟩, ⟨some 90, .fieldAddr 0 (.t 7), none⟩, ⟨some 91, .load false 1 (.t 90), none⟩, ⟨some 92, .call 1 93 [.t 88, .t 89, .t 91], none⟩, ⟨some 93, .not (.t 92), none⟩] [1, 4, 6, 7, 9, 93])
     (.cond (.t 93) (.seq (.region [⟨some 8, .mv (.con (.int .i64 5)), none⟩] [8])
      .ret) .skip)))
    (.region [⟨some 86, .mv (.t 9), none⟩, ⟨some 87, .arith .add .i64 (.t 86) (.con (.int .i64 1)), none⟩, ⟨some 9, .mv (.t 87), none⟩] [1, 4, 6, 7, 9]))))))
  (.seq (.seq (.region [⟨some 94, .fieldAddr 1 (.t 7), none⟩, ⟨some 95, .load false 1 (.t 94), none⟩, ⟨some 96, .fieldAddr 1 (.t 6), none⟩, ⟨some 97, .load false 1 (.t 96), none⟩, ⟨some 98, .cmp .lss (.t 95) (.t 97), none⟩, ⟨some 99, .mv (.t 98), none⟩, ⟨some 100, .fieldAddr 1 (.t 7), some (99, false)⟩, ⟨some 101, .load false 1 (.t 100), some (99, false)⟩, ⟨some 102, .fieldAddr 1 (.t 6), some (99, false)⟩, ⟨some 103, .load false 1 (.t 102), some (99, false)⟩, ⟨some 104, .fieldAddr 2 (.t 6), some (99, false)⟩, ⟨some 105, .load false 1 (.t 104), some (99, false)⟩, ⟨some 106, .arith .add .i64 (.t 103) (.t 105), some (99, false)⟩, ⟨some 107, .cmp .gtr (.t 101) (.t 106), some (99, false)⟩, ⟨some 108, .pick (.t 99) (.con (.bool true)) (.t 107), none⟩] [1, 4, 6, 7, 108])
  (.cond (.t 108) (.seq (.region [⟨some 8, .mv (.con (.int .i64 11)), none⟩] [8])
   .ret) .skip))
  (.seq (.seq (.region [⟨some 109, .mv (.t 1), none⟩, ⟨some 110, .load true 3 (.t 4), none⟩, ⟨some 111, .load true 3 (.t 6), none⟩, ⟨some 112, .fieldAddr 2 (.t 7), none⟩, ⟨some 113, .load false 1 (.t 112), none⟩, ⟨some 114, .fieldAddr 2 (.t 7), none⟩, ⟨some 115, .load false 1 (.t 114), none⟩, ⟨some 116, .fieldAddr 3 (.t 7), none⟩, ⟨some 117, .load false 1 (.t 116), none⟩, ⟨some 118, .arith .add .i64 (.t 115) (.t 117), none⟩, ⟨some 119, .call 0 47 [.t 111, .t 113, .t 118], none⟩, ⟨some 120, .call 0 25 [.t 110, .t 119], none⟩, ⟨some 121, .load true 3 (.t 4), none⟩, ⟨some 122, .fieldAddr 4 (.t 7), none⟩, ⟨some 123, .load false 1 (.t 122), none⟩, ⟨some 124, .call 0 25 [.t 121, .t 123], none⟩, ⟨some 125, .call 1 94 [.t 109, .t 120, .t 124], none⟩, ⟨some 126, .not (.t 125), none⟩] [126])
  (.cond (.t 126) (.seq (.region [⟨some 8, .mv (.con (.int .i64 9)), none⟩] [8])
   .ret) .skip))
  (.seq (.region [⟨some 8, .mv (.con (.int .i64 0)), none⟩] [8])
  .ret))))))))
def r63 : List Res := [.tmp 8]

/-- palantype/mend.first -/
def v66 : Code :=
  (.seq (.region [⟨some 2, .mv (.con (.int .i64 0)), none⟩] [0])
  (.seq (.region [⟨some 3, .mv (.t 0), none⟩, ⟨some 4, .call 1 97 [.t 3], none⟩, ⟨some 2, .mv (.t 4), none⟩] [2])
  .ret))
def r66 : List Res := [.tmp 2]

/-- (palantype/mend.Report).texts -/
def v68 : Code :=
  (.seq (.region [⟨some 3, .box (.t 0), none⟩, ⟨some 6, .newNil 9 1, none⟩] [1, 2, 3, 6])
  (.seq (.seq (.region [⟨some 9, .fieldAddr 0 (.t 3), none⟩, ⟨some 10, .load false 1 (.t 9), none⟩, ⟨some 11, .mv (.t 1), none⟩, ⟨some 12, .mv (.t 2), none⟩, ⟨some 13, .cut 2 (.t 10) (some (.t 11)) (some (.t 12)), none⟩, ⟨some 14, .len (.t 13), none⟩, ⟨some 15, .mv (.con (.int .i64 0)), none⟩] [6, 13, 14, 15])
  (.block 0 (.loop [6, 13, 14, 15] (.seq (.region [⟨some 16, .cmp .lss (.t 15) (.t 14), none⟩] [6, 13, 14, 15, 16])
    (.seq (.cond (.t 16) .skip (.exit 0))
    (.seq (.block 1 (.seq (.region [⟨some 17, .indexAddr 2 (.t 13) (.t 15), none⟩, ⟨some 18, .load true 2 (.t 17), none⟩, ⟨some 8, .alloc [.d (.str ⟨#[]⟩), .d (.int .i64 0)], none⟩, ⟨none, .store true 2 (.t 8) (.t 18), none⟩] [6, 8, 13, 14, 15])
     (.region [⟨some 19, .mv (.t 6), none⟩, ⟨some 20, .fieldAddr 0 (.t 8), none⟩, ⟨some 21, .load false 1 (.t 20), none⟩, ⟨some 22, .buildSlice 9 1 [.t 21], none⟩, ⟨some 23, .append 9 1 16 (.t 19) (.t 22), none⟩, ⟨some 6, .mv (.t 23), none⟩] [6, 13, 14, 15])))
    (.region [⟨some 24, .arith .add .i64 (.t 15) (.con (.int .i64 1)), none⟩, ⟨some 15, .mv (.t 24), none⟩] [6, 13, 14, 15])))))))
  (.seq (.region [⟨some 25, .mv (.t 6), none⟩, ⟨some 6, .mv (.t 25), none⟩] [6])
  .ret)))
def r68 : List Res := [.tmp 6]

/-- (palantype/mend.Request).end -/
def v69 : Code :=
  (.seq (.region [⟨some 1, .box (.t 0), none⟩, ⟨some 2, .mv (.con (.int .i64 0)), none⟩] [1])
  (.seq (.region [⟨some 3, .fieldAddr 2 (.t 1), none⟩, ⟨some 4, .load false 1 (.t 3), none⟩, ⟨some 5, .fieldAddr 3 (.t 1), none⟩, ⟨some 6, .load false 1 (.t 5), none⟩, ⟨some 7, .arith .add .i64 (.t 4) (.t 6), none⟩, ⟨some 2, .mv (.t 7), none⟩] [2])
  .ret))
def r69 : List Res := [.tmp 2]

/-- palantype/mend.ruled$1 -/
def v71 : Code :=
  (.seq (.region [⟨some 1, .box (.t 0), none⟩, ⟨some 2, .mv (.con (.bool false)), none⟩] [1])
  (.seq (.region [⟨some 3, .fieldAddr 0 (.t 1), none⟩, ⟨some 4, .load false 1 (.t 3), none⟩, ⟨some 5, .cmp .eql (.t 4) (.con (.int .u8 1)), none⟩, ⟨some 6, .mv (.t 5), none⟩, ⟨some 7, .fieldAddr 0 (.t 1), some (6, false)⟩, ⟨some 8, .load false 1 (.t 7), some (6, false)⟩, ⟨some 9, .cmp .eql (.t 8) (.con (.int .u8 2)), some (6, false)⟩, ⟨some 10, .pick (.t 6) (.con (.bool true)) (.t 9), none⟩, ⟨some 11, .mv (.t 10), none⟩, ⟨some 12, .fieldAddr 1 (.t 1), some (11, true)⟩, ⟨some 13, .load false 1 (.t 12), some (11, true)⟩, ⟨some 14, .call 1 72 [.t 13], some (11, true)⟩, ⟨some 15, .pick (.t 11) (.t 14) (.con (.bool false)), none⟩, ⟨some 16, .mv (.t 15), none⟩, ⟨some 17, .fieldAddr 2 (.t 1), some (16, true)⟩, ⟨some 18, .load false 1 (.t 17), some (16, true)⟩, ⟨some 19, .call 1 72 [.t 18], some (16, true)⟩, ⟨some 20, .pick (.t 16) (.t 19) (.con (.bool false)), none⟩, ⟨some 2, .mv (.t 20), none⟩] [2])
  .ret))
def r71 : List Res := [.tmp 2]

/-- palantype/mend.value -/
def v72 : Code :=
  (.seq (.region [⟨some 2, .mv (.con (.bool false)), none⟩] [0])
  (.seq (.region [⟨some 3, .mv (.t 0), none⟩, ⟨some 4, .call 1 84 [.t 3, .con (.int .i64 0), .con (.int .i64 999999999)], none⟩, ⟨some 2, .mv (.t 4), none⟩] [2])
  .ret))
def r72 : List Res := [.tmp 2]

/-- palantype/mend.all[palantype/mend.Swap] -/
def v73 : Code :=
  (.seq (.region [⟨some 3, .box (.t 1), none⟩, ⟨some 4, .mv (.con (.bool false)), none⟩] [0, 3])
  (.seq (.region [⟨some 5, .mv (.t 0), none⟩, ⟨some 6, .mkFn 99 [] [.t 3], none⟩, ⟨some 7, .call 1 98 [.t 5, .t 6], none⟩, ⟨some 8, .not (.t 7), none⟩, ⟨some 4, .mv (.t 8), none⟩] [4])
  .ret))
def r73 : List Res := [.tmp 4]

/-- palantype/mend.all[[]string] -/
def v74 : Code :=
  (.seq (.region [⟨some 3, .box (.t 1), none⟩, ⟨some 4, .mv (.con (.bool false)), none⟩] [0, 3])
  (.seq (.region [⟨some 5, .mv (.t 0), none⟩, ⟨some 6, .mkFn 101 [] [.t 3], none⟩, ⟨some 7, .call 1 100 [.t 5, .t 6], none⟩, ⟨some 8, .not (.t 7), none⟩, ⟨some 4, .mv (.t 8), none⟩] [4])
  .ret))
def r74 : List Res := [.tmp 4]

/-- palantype/mend.listed$1 -/
def v75 : Code :=
  (.seq (.region [⟨some 2, .mv (.con (.bool false)), none⟩] [0])
  (.seq (.region [⟨some 3, .mv (.t 0), none⟩, ⟨some 4, .len (.t 3), none⟩, ⟨some 5, .cmp .leq (.t 4) (.con (.int .i64 80)), none⟩, ⟨some 2, .mv (.t 5), none⟩] [2])
  .ret))
def r75 : List Res := [.tmp 2]

/-- palantype/mend.listed$2 -/
def v76 : Code :=
  (.seq (.region [⟨some 2, .mv (.con (.bool false)), none⟩] [0])
  (.seq (.region [⟨some 3, .mv (.t 0), none⟩, ⟨some 4, .call 1 77 [.t 3, .con (.fn 78 [] [])], none⟩, ⟨some 2, .mv (.t 4), none⟩] [2])
  .ret))
def r76 : List Res := [.tmp 2]

/-- palantype/mend.all[string] -/
def v77 : Code :=
  (.seq (.region [⟨some 3, .box (.t 1), none⟩, ⟨some 4, .mv (.con (.bool false)), none⟩] [0, 3])
  (.seq (.region [⟨some 5, .mv (.t 0), none⟩, ⟨some 6, .mkFn 103 [] [.t 3], none⟩, ⟨some 7, .call 1 102 [.t 5, .t 6], none⟩, ⟨some 8, .not (.t 7), none⟩, ⟨some 4, .mv (.t 8), none⟩] [4])
  .ret))
def r77 : List Res := [.tmp 4]

/-- palantype/mend.text -/
def v78 : Code :=
  (.seq (.region [⟨some 2, .mv (.con (.bool false)), none⟩] [0])
  (.seq (.region [⟨some 3, .mv (.t 0), none⟩, ⟨some 4, .lenStr (.t 3), none⟩, ⟨some 5, .call 1 84 [.t 4, .con (.int .i64 1), .con (.int .i64 32)], none⟩, ⟨some 6, .mv (.t 5), none⟩, ⟨some 7, .mv (.t 0), some (6, true)⟩, ⟨some 8, .strBytes (.t 7), some (6, true)⟩, ⟨some 9, .call 1 104 [.t 8, .con (.fn 105 [] [])], some (6, true)⟩, ⟨some 10, .pick (.t 6) (.t 9) (.con (.bool false)), none⟩, ⟨some 2, .mv (.t 10), none⟩] [2])
  .ret))
def r78 : List Res := [.tmp 2]

/-- (palantype/mend.rules).may -/
def v79 : Code :=
  (.seq (.region [⟨some 3, .box (.t 0), none⟩, ⟨some 4, .box (.t 1), none⟩, ⟨some 5, .box (.t 2), none⟩, ⟨some 6, .mv (.con (.bool false)), none⟩] [3, 4, 5])
  (.seq (.region [⟨some 7, .load true 2 (.t 4), none⟩, ⟨some 8, .load true 2 (.t 5), none⟩, ⟨some 9, .aggEq false [0, 0] (.t 7) (.t 8), none⟩, ⟨some 10, .mv (.t 9), none⟩, ⟨some 11, .fieldAddr 0 (.t 4), some (10, false)⟩, ⟨some 12, .load false 1 (.t 11), some (10, false)⟩, ⟨some 13, .fieldAddr 0 (.t 5), some (10, false)⟩, ⟨some 14, .load false 1 (.t 13), some (10, false)⟩, ⟨some 15, .cmp .eql (.t 12) (.t 14), some (10, false)⟩, ⟨some 16, .mv (.t 15), some (10, false)⟩, ⟨some 17, .fieldAddr 1 (.t 3), some (16, true)⟩, ⟨some 18, .load false 1 (.t 17), some (16, true)⟩, ⟨some 19, .fieldAddr 0 (.t 4), some (16, true)⟩, ⟨some 20, .load false 1 (.t 19), some (16, true)⟩, ⟨some 21, .fieldAddr 1 (.t 4), some (16, true)⟩, ⟨some 22, .load false 1 (.t 21), some (16, true)⟩, ⟨some 23, .fieldAddr 1 (.t 5), some (16, true)⟩, ⟨some 24, .load false 1 (.t 23), some (16, true)⟩, ⟨some 25, .build [.d (.int .u8 0), .d (.int .i64 0), .d (.int .i64 0)] [(0, 1, .t 20), (1, 1, .t 22), (2, 1, .t 24)], some (16, true)⟩, ⟨some 26, .call 1 106 [.t 18, .t 25], some (16, true)⟩, ⟨some 27, .pick (.t 16) (.t 26) (.con (.bool false)), some (10, false)⟩, ⟨some 28, .pick (.t 10) (.con (.bool true)) (.t 27), none⟩, ⟨some 6, .mv (.t 28), none⟩] [6])
  .ret))
def r79 : List Res := [.tmp 6]

/-- (palantype/mend.meanings).mark -/
def v80 : Code :=
  (.seq (.region [⟨some 4, .alloc [.d (.int .u8 0), .d (.int .i64 0)], none⟩, ⟨some 5, .mv (.con (.bool false)), none⟩] [0, 1, 4])
  (.seq (.seq (.region [⟨some 11, .mv (.t 0), none⟩, ⟨some 12, .mv (.t 1), none⟩, ⟨some 13, .lookup 2 true [.int .u8 0, .int .i64 0] (.t 11) (.t 12), none⟩, ⟨some 10, .mv (.t 13), none⟩, ⟨some 14, .extract (.t 10) 0, none⟩, ⟨some 15, .extract (.t 10) 1, none⟩, ⟨some 6, .alloc [.d (.int .u8 0), .d (.int .i64 0)], none⟩, ⟨none, .store true 2 (.t 6) (.t 14), none⟩, ⟨some 7, .mv (.t 15), none⟩] [1, 4, 6, 7])
  (.seq (.region [⟨some 16, .mv (.t 7), none⟩] [1, 4, 6, 16])
  (.cond (.t 16) (.seq (.region [⟨some 17, .load true 2 (.t 6), none⟩, ⟨none, .store true 2 (.t 4) (.t 17), none⟩, ⟨some 5, .mv (.con (.bool true)), none⟩] [4, 5])
   .ret) .skip)))
  (.seq (.region [⟨some 19, .mv (.t 1), none⟩, ⟨some 20, .call 0 107 [.t 19], none⟩, ⟨some 18, .mv (.t 20), none⟩, ⟨some 21, .extract (.t 18) 0, none⟩, ⟨some 22, .extract (.t 18) 1, none⟩, ⟨some 8, .mv (.t 21), none⟩, ⟨some 9, .mv (.t 22), none⟩] [1, 4, 8, 9])
  (.seq (.seq (.region [⟨some 23, .mv (.t 9), none⟩, ⟨some 24, .errEq true (.t 23), none⟩, ⟨some 25, .mv (.t 24), none⟩, ⟨some 26, .mv (.t 8), some (25, false)⟩, ⟨some 27, .call 1 72 [.t 26], some (25, false)⟩, ⟨some 28, .not (.t 27), some (25, false)⟩, ⟨some 29, .pick (.t 25) (.con (.bool true)) (.t 28), none⟩, ⟨some 30, .mv (.t 29), none⟩, ⟨some 31, .mv (.t 8), some (30, false)⟩, ⟨some 32, .call 1 108 [.t 31], some (30, false)⟩, ⟨some 33, .mv (.t 1), some (30, false)⟩, ⟨some 34, .strOp .neq (.t 32) (.t 33), some (30, false)⟩, ⟨some 35, .pick (.t 30) (.con (.bool true)) (.t 34), none⟩] [4, 8, 35])
  (.cond (.t 35) (.seq (.region [⟨some 36, .build [.d (.int .u8 0), .d (.int .i64 0)] [], none⟩, ⟨none, .store true 2 (.t 4) (.t 36), none⟩, ⟨some 5, .mv (.con (.bool false)), none⟩] [4, 5])
   .ret) .skip))
  (.seq (.region [⟨some 37, .mv (.t 8), none⟩, ⟨some 38, .build [.d (.int .u8 0), .d (.int .i64 0)] [(0, 1, .con (.int .u8 1)), (1, 1, .t 37)], none⟩, ⟨none, .store true 2 (.t 4) (.t 38), none⟩, ⟨some 5, .mv (.con (.bool true)), none⟩] [4, 5])
  .ret)))))
def r80 : List Res := [.cell 4 true 2, .tmp 5]

/-- palantype/palantyperef04.digits -/
def v81 : Code :=
  (.seq (.region [⟨some 2, .mv (.con (.int .i64 0)), none⟩] [0])
  (.seq (.seq (.region [⟨some 5, .mv (.t 0), none⟩, ⟨some 6, .lenStr (.t 5), none⟩, ⟨some 7, .cmp .lss (.t 6) (.con (.int .i64 1)), none⟩, ⟨some 8, .mv (.t 7), none⟩, ⟨some 9, .mv (.t 0), some (8, false)⟩, ⟨some 10, .lenStr (.t 9), some (8, false)⟩, ⟨some 11, .cmp .gtr (.t 10) (.con (.int .i64 9)), some (8, false)⟩, ⟨some 12, .pick (.t 8) (.con (.bool true)) (.t 11), none⟩, ⟨some 13, .mv (.t 12), none⟩, ⟨some 14, .mv (.t 0), some (13, false)⟩, ⟨some 15, .indexStr (.t 14) (.con (.int .i64 0)), some (13, false)⟩, ⟨some 16, .cmp .eql (.t 15) (.con (.int .u8 48)), some (13, false)⟩, ⟨some 17, .mv (.t 16), some (13, false)⟩, ⟨some 18, .mv (.t 0), some (17, true)⟩, ⟨some 19, .lenStr (.t 18), some (17, true)⟩, ⟨some 20, .cmp .gtr (.t 19) (.con (.int .i64 1)), some (17, true)⟩, ⟨some 21, .pick (.t 17) (.t 20) (.con (.bool false)), some (13, false)⟩, ⟨some 22, .pick (.t 13) (.con (.bool true)) (.t 21), none⟩] [0, 22])
  (.cond (.t 22) (.seq (.region [⟨some 2, .mv (.con (.int .i64 (-1))), none⟩] [2])
   .ret) .skip))
  (.seq (.region [⟨some 3, .mv (.con (.int .i64 0)), none⟩] [0, 3])
  (.seq (.seq (.region [⟨some 4, .mv (.con (.int .i64 0)), none⟩] [0, 3, 4])
  (.block 0 (.loop [0, 3, 4] (.seq (.seq (.region [⟨some 23, .mv (.t 4), none⟩, ⟨some 24, .mv (.t 0), none⟩, ⟨some 25, .lenStr (.t 24), none⟩, ⟨some 26, .cmp .lss (.t 23) (.t 25), none⟩] [0, 3, 4, 26])
    (.cond (.t 26) .skip (.exit 0)))
    (.seq (.block 1 (.seq (.seq (.region [⟨some 29, .mv (.t 0), none⟩, ⟨some 30, .mv (.t 4), none⟩, ⟨some 31, .indexStr (.t 29) (.t 30), none⟩, ⟨some 32, .cmp .lss (.t 31) (.con (.int .u8 48)), none⟩, ⟨some 33, .mv (.t 32), none⟩, ⟨some 34, .mv (.t 0), some (33, false)⟩, ⟨some 35, .mv (.t 4), some (33, false)⟩, ⟨some 36, .indexStr (.t 34) (.t 35), some (33, false)⟩, ⟨some 37, .cmp .gtr (.t 36) (.con (.int .u8 57)), some (33, false)⟩, ⟨some 38, .pick (.t 33) (.con (.bool true)) (.t 37), none⟩] [0, 3, 4, 38])
     (.cond (.t 38) (.seq (.region [⟨some 2, .mv (.con (.int .i64 (-1))), none⟩] [2])
      .ret) .skip))
     (.region [⟨some 39, .mv (.t 3), none⟩, ⟨some 40, .arith .mul .i64 (.con (.int .i64 10)) (.t 39), none⟩, ⟨some 41, .mv (.t 0), none⟩, ⟨some 42, .mv (.t 4), none⟩, ⟨some 43, .indexStr (.t 41) (.t 42), none⟩, ⟨some 44, .arith .sub .u8 (.t 43) (.con (.int .u8 48)), none⟩, ⟨some 45, .conv .i64 (.t 44), none⟩, ⟨some 46, .arith .add .i64 (.t 40) (.t 45), none⟩, ⟨some 3, .mv (.t 46), none⟩] [0, 3, 4])))
    (.region [⟨some 27, .mv (.t 4), none⟩, ⟨some 28, .arith .add .i64 (.t 27) (.con (.int .i64 1)), none⟩, ⟨some 4, .mv (.t 28), none⟩] [0, 3, 4]))))))
  (.seq (.region [⟨some 47, .mv (.t 3), none⟩, ⟨some 2, .mv (.t 47), none⟩] [2])
  .ret)))))
def r81 : List Res := [.tmp 2]

/-- (palantype/mend.Lexicon).read$1 -/
def v82 : Code :=
  (.seq (.region [⟨some 1, .box (.t 0), none⟩, ⟨some 2, .mv (.con (.bool false)), none⟩] [1])
  (.seq (.region [⟨some 3, .fieldAddr 0 (.t 1), none⟩, ⟨some 4, .load false 1 (.t 3), none⟩, ⟨some 5, .call 1 78 [.t 4], none⟩, ⟨some 6, .mv (.t 5), none⟩, ⟨some 7, .fieldAddr 1 (.t 1), some (6, true)⟩, ⟨some 8, .load false 1 (.t 7), some (6, true)⟩, ⟨some 9, .call 1 72 [.t 8], some (6, true)⟩, ⟨some 10, .pick (.t 6) (.t 9) (.con (.bool false)), none⟩, ⟨some 2, .mv (.t 10), none⟩] [2])
  .ret))
def r82 : List Res := [.tmp 2]

/-- (palantype/mend.Lexicon).read$2 -/
def v83 : Code :=
  (.seq (.region [⟨some 2, .mv (.con (.bool false)), none⟩] [0])
  (.seq (.region [⟨some 3, .mv (.t 0), none⟩, ⟨some 4, .len (.t 3), none⟩, ⟨some 5, .call 1 84 [.t 4, .con (.int .i64 1), .con (.int .i64 5)], none⟩, ⟨some 6, .mv (.t 5), none⟩, ⟨some 7, .mv (.t 0), some (6, true)⟩, ⟨some 8, .call 1 77 [.t 7, .con (.fn 78 [] [])], some (6, true)⟩, ⟨some 9, .pick (.t 6) (.t 8) (.con (.bool false)), none⟩, ⟨some 2, .mv (.t 9), none⟩] [2])
  .ret))
def r83 : List Res := [.tmp 2]

/-- palantype/mend.within -/
def v84 : Code :=
  (.seq (.region [⟨some 6, .mv (.con (.bool false)), none⟩] [0, 1, 2])
  (.seq (.region [⟨some 7, .mv (.t 1), none⟩, ⟨some 8, .mv (.t 0), none⟩, ⟨some 9, .cmp .leq (.t 7) (.t 8), none⟩, ⟨some 10, .mv (.t 9), none⟩, ⟨some 11, .mv (.t 0), some (10, true)⟩, ⟨some 12, .mv (.t 2), some (10, true)⟩, ⟨some 13, .cmp .leq (.t 11) (.t 12), some (10, true)⟩, ⟨some 14, .pick (.t 10) (.t 13) (.con (.bool false)), none⟩, ⟨some 6, .mv (.t 14), none⟩] [6])
  .ret))
def r84 : List Res := [.tmp 6]

/-- palantype/mend.all[palantype/mend.Number] -/
def v85 : Code :=
  (.seq (.region [⟨some 3, .box (.t 1), none⟩, ⟨some 4, .mv (.con (.bool false)), none⟩] [0, 3])
  (.seq (.region [⟨some 5, .mv (.t 0), none⟩, ⟨some 6, .mkFn 110 [] [.t 3], none⟩, ⟨some 7, .call 1 109 [.t 5, .t 6], none⟩, ⟨some 8, .not (.t 7), none⟩, ⟨some 4, .mv (.t 8), none⟩] [4])
  .ret))
def r85 : List Res := [.tmp 4]

/-- (palantype/mend.Lexicon).listed -/
def v86 : Code :=
  (.seq (.region [⟨some 1, .box (.t 0), none⟩, ⟨some 2, .mv (.con .fn0), none⟩] [1])
  (.seq (.region [⟨some 3, .mkFn 111 [] [.t 1], none⟩, ⟨some 2, .mv (.t 3), none⟩] [2])
  .ret))
def r86 : List Res := [.tmp 2]

/-- palantype/mend.decide$1 -/
def v88 : Code :=
  (.seq (.region [⟨some 5, .mv (.con (.int .i64 0)), none⟩] [0, 1, 2])
  (.seq (.region [⟨some 6, .load false 1 (.t 2), none⟩, ⟨some 7, .mv (.t 0), none⟩, ⟨some 8, .indexAddr 5 (.t 6) (.t 7), none⟩, ⟨some 9, .fieldAddr 1 (.t 8), none⟩, ⟨some 10, .load false 1 (.t 9), none⟩, ⟨some 11, .load false 1 (.t 2), none⟩, ⟨some 12, .mv (.t 1), none⟩, ⟨some 13, .indexAddr 5 (.t 11) (.t 12), none⟩, ⟨some 14, .fieldAddr 1 (.t 13), none⟩, ⟨some 15, .load false 1 (.t 14), none⟩, ⟨some 16, .call 1 89 [.t 10, .t 15], none⟩, ⟨some 17, .load false 1 (.t 2), none⟩, ⟨some 18, .mv (.t 0), none⟩, ⟨some 19, .indexAddr 5 (.t 17) (.t 18), none⟩, ⟨some 20, .fieldAddr 0 (.t 19), none⟩, ⟨some 21, .load false 1 (.t 20), none⟩, ⟨some 22, .load false 1 (.t 2), none⟩, ⟨some 23, .mv (.t 1), none⟩, ⟨some 24, .indexAddr 5 (.t 22) (.t 23), none⟩, ⟨some 25, .fieldAddr 0 (.t 24), none⟩, ⟨some 26, .load false 1 (.t 25), none⟩, ⟨some 27, .call 1 89 [.t 21, .t 26], none⟩, ⟨some 28, .buildSlice 3 1 [.t 16, .t 27], none⟩, ⟨some 29, .call 1 66 [.t 28], none⟩, ⟨some 5, .mv (.t 29), none⟩] [5])
  .ret))
def r88 : List Res := [.tmp 5]

/-- cmp.Compare[int] -/
def v89 : Code :=
  (.seq (.region [⟨some 4, .mv (.con (.int .i64 0)), none⟩] [0, 1])
  (.seq (.region [⟨some 7, .mv (.t 0), none⟩, ⟨some 8, .call 1 113 [.t 7], none⟩, ⟨some 5, .mv (.t 8), none⟩] [0, 1, 5])
  (.seq (.region [⟨some 9, .mv (.t 1), none⟩, ⟨some 10, .call 1 113 [.t 9], none⟩, ⟨some 6, .mv (.t 10), none⟩] [0, 1, 5, 6])
  (.seq (.seq (.region [⟨some 11, .mv (.t 5), none⟩] [0, 1, 6, 11])
  (.cond (.t 11) (.seq (.seq (.region [⟨some 12, .mv (.t 6), none⟩] [12])
   (.cond (.t 12) (.seq (.region [⟨some 4, .mv (.con (.int .i64 0)), none⟩] [4])
    .ret) .skip))
   (.seq (.region [⟨some 4, .mv (.con (.int .i64 (-1))), none⟩] [4])
   .ret)) .skip))
  (.seq (.seq (.region [⟨some 13, .mv (.t 6), none⟩] [0, 1, 13])
  (.cond (.t 13) (.seq (.region [⟨some 4, .mv (.con (.int .i64 1)), none⟩] [4])
   .ret) .skip))
  (.seq (.seq (.region [⟨some 14, .mv (.t 0), none⟩, ⟨some 15, .mv (.t 1), none⟩, ⟨some 16, .cmp .lss (.t 14) (.t 15), none⟩] [0, 1, 16])
  (.cond (.t 16) (.seq (.region [⟨some 4, .mv (.con (.int .i64 (-1))), none⟩] [4])
   .ret) .skip))
  (.seq (.seq (.region [⟨some 17, .mv (.t 0), none⟩, ⟨some 18, .mv (.t 1), none⟩, ⟨some 19, .cmp .gtr (.t 17) (.t 18), none⟩] [19])
  (.cond (.t 19) (.seq (.region [⟨some 4, .mv (.con (.int .i64 1)), none⟩] [4])
   .ret) .skip))
  (.seq (.region [⟨some 4, .mv (.con (.int .i64 0)), none⟩] [4])
  .ret))))))))
def r89 : List Res := [.tmp 4]

/-- (*palantype/mend.decided).refuses -/
def v90 : Code :=
  (.seq (.region [⟨some 3, .box (.t 1), none⟩, ⟨some 4, .mv (.con (.int .i64 0)), none⟩] [0, 3])
  (.scope (.seq (.region [⟨some 5, .mv (.con (.int .i64 0)), none⟩] [0, 3, 5])
   (.seq .skip
   (.seq (.seq (.region [⟨some 8, .mv (.t 0), none⟩, ⟨some 9, .mkFn 114 [.t 8] [], none⟩, ⟨some 10, .build [.d (.fn0), .d (.int .i64 0)] [(0, 1, .t 9), (1, 1, .con (.int .i64 2))], none⟩, ⟨some 11, .mv (.t 0), none⟩, ⟨some 12, .mkFn 115 [.t 11] [], none⟩, ⟨some 13, .build [.d (.fn0), .d (.int .i64 0)] [(0, 1, .t 12), (1, 1, .con (.int .i64 1))], none⟩, ⟨some 14, .mv (.t 0), none⟩, ⟨some 15, .mkFn 116 [.t 14] [], none⟩, ⟨some 16, .build [.d (.fn0), .d (.int .i64 0)] [(0, 1, .t 15), (1, 1, .con (.int .i64 5))], none⟩, ⟨some 17, .mv (.t 0), none⟩, ⟨some 18, .mkFn 117 [.t 17] [], none⟩, ⟨some 19, .build [.d (.fn0), .d (.int .i64 0)] [(0, 1, .t 18), (1, 1, .con (.int .i64 11))], none⟩, ⟨some 20, .mv (.t 0), none⟩, ⟨some 21, .mkFn 118 [.t 20] [], none⟩, ⟨some 22, .build [.d (.fn0), .d (.int .i64 0)] [(0, 1, .t 21), (1, 1, .con (.int .i64 9))], none⟩, ⟨some 23, .mv (.t 0), none⟩, ⟨some 24, .mkFn 119 [.t 23] [], none⟩, ⟨some 25, .build [.d (.fn0), .d (.int .i64 0)] [(0, 1, .t 24), (1, 1, .con (.int .i64 6))], none⟩, ⟨some 26, .buildSlice 182 2 [.t 10, .t 13, .t 16, .t 19, .t 22, .t 25], none⟩, ⟨some 27, .len (.t 26), none⟩, ⟨some 28, .mv (.con (.int .i64 0)), none⟩] [3, 5, 26, 27, 28])
   (.block 0 (.loop [3, 5, 26, 27, 28] (.seq (.region [⟨some 29, .cmp .lss (.t 28) (.t 27), none⟩] [3, 5, 26, 27, 28, 29])
     (.seq (.cond (.t 29) .skip (.exit 0))
     (.seq (.block 1 (.seq (.region [⟨some 30, .indexAddr 2 (.t 26) (.t 28), none⟩, ⟨some 31, .load true 2 (.t 30), none⟩, ⟨some 7, .alloc [.d (.fn0), .d (.int .i64 0)], none⟩, ⟨none, .store true 2 (.t 7) (.t 31), none⟩] [3, 5, 7, 26, 27, 28])
      (.seq (.region [⟨some 32, .fieldAddr 0 (.t 7), none⟩, ⟨some 33, .load false 1 (.t 32), none⟩, ⟨some 34, .load true 5 (.t 3), none⟩, ⟨some 35, .callV 1 (.t 33) [.t 34], none⟩, ⟨some 36, .not (.t 35), none⟩] [3, 5, 7, 26, 27, 28, 36])
      (.cond (.t 36) (.seq (.region [⟨some 37, .fieldAddr 1 (.t 7), none⟩, ⟨some 38, .load false 1 (.t 37), none⟩, ⟨some 5, .mv (.t 38), none⟩] [5])
       (.exit 0)) .skip))))
     (.region [⟨some 39, .arith .add .i64 (.t 28) (.con (.int .i64 1)), none⟩, ⟨some 28, .mv (.t 39), none⟩] [3, 5, 26, 27, 28])))))))
   (.seq (.region [⟨some 40, .mv (.t 5), none⟩, ⟨some 4, .mv (.t 40), none⟩] [4])
   .ret))))))
def r90 : List Res := [.tmp 4]

/-- (palantype/mend.Report).check$1 -/
def v91 : Code :=
  (.seq (.region [⟨some 1, .box (.t 0), none⟩, ⟨some 2, .mv (.con (.bool false)), none⟩] [1])
  (.seq (.region [⟨some 3, .fieldAddr 0 (.t 1), none⟩, ⟨some 4, .load false 1 (.t 3), none⟩, ⟨some 5, .call 1 78 [.t 4], none⟩, ⟨some 6, .mv (.t 5), none⟩, ⟨some 7, .fieldAddr 1 (.t 1), some (6, true)⟩, ⟨some 8, .load false 1 (.t 7), some (6, true)⟩, ⟨some 9, .call 1 84 [.t 8, .con (.int .i64 0), .con (.int .i64 999)], some (6, true)⟩, ⟨some 10, .pick (.t 6) (.t 9) (.con (.bool false)), none⟩, ⟨some 2, .mv (.t 10), none⟩] [2])
  .ret))
def r91 : List Res := [.tmp 2]

/-- palantype/mend.all[palantype/mend.Said] -/
def v92 : Code :=
  (.seq (.region [⟨some 3, .box (.t 1), none⟩, ⟨some 4, .mv (.con (.bool false)), none⟩] [0, 3])
  (.seq (.region [⟨some 5, .mv (.t 0), none⟩, ⟨some 6, .mkFn 121 [] [.t 3], none⟩, ⟨some 7, .call 1 120 [.t 5, .t 6], none⟩, ⟨some 8, .not (.t 7), none⟩, ⟨some 4, .mv (.t 8), none⟩] [4])
  .ret))
def r92 : List Res := [.tmp 4]

/-- palantype/palantyperef04.owns -/
def v93 : Code :=
  (.seq (.region [⟨some 3, .box (.t 0), none⟩, ⟨some 6, .mv (.con (.bool false)), none⟩] [1, 2, 3])
  (.seq (.region [⟨some 7, .mv (.t 1), none⟩, ⟨some 8, .fieldAddr 0 (.t 3), none⟩, ⟨some 9, .load false 1 (.t 8), none⟩, ⟨some 10, .len (.t 9), none⟩, ⟨some 11, .arith .sub .i64 (.t 10) (.con (.int .i64 1)), none⟩, ⟨some 12, .call 1 28 [.t 7, .con (.int .i64 0), .t 11], none⟩, ⟨some 13, .mv (.t 12), none⟩, ⟨some 14, .fieldAddr 0 (.t 3), some (13, true)⟩, ⟨some 15, .load false 1 (.t 14), some (13, true)⟩, ⟨some 16, .mv (.t 1), some (13, true)⟩, ⟨some 17, .indexAddr 2 (.t 15) (.t 16), some (13, true)⟩, ⟨some 18, .fieldAddr 1 (.t 17), some (13, true)⟩, ⟨some 19, .load false 1 (.t 18), some (13, true)⟩, ⟨some 20, .mv (.t 2), some (13, true)⟩, ⟨some 21, .cmp .eql (.t 19) (.t 20), some (13, true)⟩, ⟨some 22, .pick (.t 13) (.t 21) (.con (.bool false)), none⟩, ⟨some 6, .mv (.t 22), none⟩] [6])
  .ret))
def r93 : List Res := [.tmp 6]

/-- palantype/palantyperef04.Becomes -/
def v94 : Code :=
  (.seq (.region [⟨some 6, .mv (.con (.bool false)), none⟩] [0, 1, 2])
  (.seq (.seq (.region [⟨some 8, .mv (.t 1), none⟩, ⟨some 9, .len (.t 8), none⟩, ⟨some 10, .mv (.t 2), none⟩, ⟨some 11, .len (.t 10), none⟩, ⟨some 12, .cmp .neq (.t 9) (.t 11), none⟩] [0, 1, 2, 12])
  (.cond (.t 12) (.seq (.region [⟨some 6, .mv (.con (.bool false)), none⟩] [6])
   .ret) .skip))
  (.seq (.seq (.region [⟨some 7, .mv (.con (.int .i64 0)), none⟩] [0, 1, 2, 7])
  (.block 0 (.loop [0, 1, 2, 7] (.seq (.seq (.region [⟨some 13, .mv (.t 7), none⟩, ⟨some 14, .mv (.t 1), none⟩, ⟨some 15, .len (.t 14), none⟩, ⟨some 16, .cmp .lss (.t 13) (.t 15), none⟩] [0, 1, 2, 7, 16])
    (.cond (.t 16) .skip (.exit 0)))
    (.seq (.block 1 (.seq (.region [⟨some 19, .mv (.t 0), none⟩, ⟨some 20, .mv (.t 1), none⟩, ⟨some 21, .mv (.t 7), none⟩, ⟨some 22, .indexAddr 2 (.t 20) (.t 21), none⟩, ⟨some 23, .load true 2 (.t 22), none⟩, ⟨some 24, .mv (.t 2), none⟩, ⟨some 25, .mv (.t 7), none⟩, ⟨some 26, .indexAddr 2 (.t 24) (.t 25), none⟩, ⟨some 27, .load true 2 (.t 26), none⟩, ⟨some 28, .call 1 56 [.t 19, .t 23, .t 27], none⟩, ⟨some 29, .not (.t 28), none⟩] [0, 1, 2, 7, 29])
     (.cond (.t 29) (.seq (.region [⟨some 6, .mv (.con (.bool false)), none⟩] [6])
      .ret) .skip)))
    (.region [⟨some 17, .mv (.t 7), none⟩, ⟨some 18, .arith .add .i64 (.t 17) (.con (.int .i64 1)), none⟩, ⟨some 7, .mv (.t 18), none⟩] [0, 1, 2, 7]))))))
  (.seq (.region [⟨some 6, .mv (.con (.bool true)), none⟩] [6])
  .ret))))
def r94 : List Res := [.tmp 6]

/-- cmp.Or[int] -/
def v97 : Code :=
  (.seq (.region [⟨some 2, .mv (.con (.int .i64 0)), none⟩] [0])
  (.seq (.region [⟨some 3, .mv (.con (.int .i64 0)), none⟩] [0, 3])
  (.seq (.seq (.region [⟨some 6, .mv (.t 0), none⟩, ⟨some 7, .len (.t 6), none⟩, ⟨some 8, .mv (.con (.int .i64 0)), none⟩] [3, 6, 7, 8])
  (.block 0 (.loop [3, 6, 7, 8] (.seq (.region [⟨some 9, .cmp .lss (.t 8) (.t 7), none⟩] [3, 6, 7, 8, 9])
    (.seq (.cond (.t 9) .skip (.exit 0))
    (.seq (.block 1 (.seq (.region [⟨some 10, .indexAddr 1 (.t 6) (.t 8), none⟩, ⟨some 11, .load false 1 (.t 10), none⟩, ⟨some 5, .mv (.t 11), none⟩] [3, 5, 6, 7, 8])
     (.seq (.region [⟨some 12, .mv (.t 5), none⟩, ⟨some 13, .mv (.t 3), none⟩, ⟨some 14, .cmp .neq (.t 12) (.t 13), none⟩] [3, 5, 6, 7, 8, 14])
     (.cond (.t 14) (.seq (.region [⟨some 15, .mv (.t 5), none⟩, ⟨some 2, .mv (.t 15), none⟩] [2])
      .ret) .skip))))
    (.region [⟨some 16, .arith .add .i64 (.t 8) (.con (.int .i64 1)), none⟩, ⟨some 8, .mv (.t 16), none⟩] [3, 6, 7, 8])))))))
  (.seq (.region [⟨some 17, .mv (.t 3), none⟩, ⟨some 2, .mv (.t 17), none⟩] [2])
  .ret))))
def r97 : List Res := [.tmp 2]

/-- slices.ContainsFunc[[]palantype/mend.Swap,palantype/mend.Swap] -/
def v98 : Code :=
  (.seq (.region [⟨some 4, .mv (.con (.bool false)), none⟩] [0, 1])
  (.seq (.region [⟨some 5, .mv (.t 0), none⟩, ⟨some 6, .mv (.t 1), none⟩, ⟨some 7, .call 1 132 [.t 5, .t 6], none⟩, ⟨some 8, .cmp .geq (.t 7) (.con (.int .i64 0)), none⟩, ⟨some 4, .mv (.t 8), none⟩] [4])
  .ret))
def r98 : List Res := [.tmp 4]

/-- palantype/mend.all[palantype/mend.Swap]$1 -/
def v99 : Code :=
  (.seq (.region [⟨some 2, .box (.t 0), none⟩, ⟨some 3, .mv (.con (.bool false)), none⟩] [1, 2])
  (.seq (.region [⟨some 4, .load false 1 (.t 1), none⟩, ⟨some 5, .load true 3 (.t 2), none⟩, ⟨some 6, .callV 1 (.t 4) [.t 5], none⟩, ⟨some 7, .not (.t 6), none⟩, ⟨some 3, .mv (.t 7), none⟩] [3])
  .ret))
def r99 : List Res := [.tmp 3]

/-- slices.ContainsFunc[[][]string,[]string] -/
def v100 : Code :=
  (.seq (.region [⟨some 4, .mv (.con (.bool false)), none⟩] [0, 1])
  (.seq (.region [⟨some 5, .mv (.t 0), none⟩, ⟨some 6, .mv (.t 1), none⟩, ⟨some 7, .call 1 133 [.t 5, .t 6], none⟩, ⟨some 8, .cmp .geq (.t 7) (.con (.int .i64 0)), none⟩, ⟨some 4, .mv (.t 8), none⟩] [4])
  .ret))
def r100 : List Res := [.tmp 4]

/-- palantype/mend.all[[]string]$1 -/
def v101 : Code :=
  (.seq (.region [⟨some 3, .mv (.con (.bool false)), none⟩] [0, 1])
  (.seq (.region [⟨some 4, .load false 1 (.t 1), none⟩, ⟨some 5, .mv (.t 0), none⟩, ⟨some 6, .callV 1 (.t 4) [.t 5], none⟩, ⟨some 7, .not (.t 6), none⟩, ⟨some 3, .mv (.t 7), none⟩] [3])
  .ret))
def r101 : List Res := [.tmp 3]

/-- slices.ContainsFunc[[]string,string] -/
def v102 : Code :=
  (.seq (.region [⟨some 4, .mv (.con (.bool false)), none⟩] [0, 1])
  (.seq (.region [⟨some 5, .mv (.t 0), none⟩, ⟨some 6, .mv (.t 1), none⟩, ⟨some 7, .call 1 134 [.t 5, .t 6], none⟩, ⟨some 8, .cmp .geq (.t 7) (.con (.int .i64 0)), none⟩, ⟨some 4, .mv (.t 8), none⟩] [4])
  .ret))
def r102 : List Res := [.tmp 4]

/-- palantype/mend.all[string]$1 -/
def v103 : Code :=
  (.seq (.region [⟨some 3, .mv (.con (.bool false)), none⟩] [0, 1])
  (.seq (.region [⟨some 4, .load false 1 (.t 1), none⟩, ⟨some 5, .mv (.t 0), none⟩, ⟨some 6, .callV 1 (.t 4) [.t 5], none⟩, ⟨some 7, .not (.t 6), none⟩, ⟨some 3, .mv (.t 7), none⟩] [3])
  .ret))
def r103 : List Res := [.tmp 3]

/-- palantype/mend.all[byte] -/
def v104 : Code :=
  (.seq (.region [⟨some 3, .box (.t 1), none⟩, ⟨some 4, .mv (.con (.bool false)), none⟩] [0, 3])
  (.seq (.region [⟨some 5, .mv (.t 0), none⟩, ⟨some 6, .mkFn 136 [] [.t 3], none⟩, ⟨some 7, .call 1 135 [.t 5, .t 6], none⟩, ⟨some 8, .not (.t 7), none⟩, ⟨some 4, .mv (.t 8), none⟩] [4])
  .ret))
def r104 : List Res := [.tmp 4]

/-- palantype/mend.text$1 -/
def v105 : Code :=
  (.seq (.region [⟨some 2, .mv (.con (.bool false)), none⟩] [0])
  (.seq (.region [⟨some 3, .mv (.t 0), none⟩, ⟨some 4, .cmp .leq (.con (.int .u8 33)) (.t 3), none⟩, ⟨some 5, .mv (.t 4), none⟩, ⟨some 6, .mv (.t 0), some (5, true)⟩, ⟨some 7, .cmp .leq (.t 6) (.con (.int .u8 126)), some (5, true)⟩, ⟨some 8, .pick (.t 5) (.t 7) (.con (.bool false)), none⟩, ⟨some 2, .mv (.t 8), none⟩] [2])
  .ret))
def r105 : List Res := [.tmp 2]

/-- slices.Contains[[]palantype/mend.Swap,palantype/mend.Swap] -/
def v106 : Code :=
  (.seq (.region [⟨some 3, .box (.t 1), none⟩, ⟨some 4, .mv (.con (.bool false)), none⟩] [0, 3])
  (.seq (.region [⟨some 5, .mv (.t 0), none⟩, ⟨some 6, .load true 3 (.t 3), none⟩, ⟨some 7, .call 1 137 [.t 5, .t 6], none⟩, ⟨some 8, .cmp .geq (.t 7) (.con (.int .i64 0)), none⟩, ⟨some 4, .mv (.t 8), none⟩] [4])
  .ret))
def r106 : List Res := [.tmp 4]

/-- slices.ContainsFunc[[]palantype/mend.Number,palantype/mend.Number] -/
def v109 : Code :=
  (.seq (.region [⟨some 4, .mv (.con (.bool false)), none⟩] [0, 1])
  (.seq (.region [⟨some 5, .mv (.t 0), none⟩, ⟨some 6, .mv (.t 1), none⟩, ⟨some 7, .call 1 141 [.t 5, .t 6], none⟩, ⟨some 8, .cmp .geq (.t 7) (.con (.int .i64 0)), none⟩, ⟨some 4, .mv (.t 8), none⟩] [4])
  .ret))
def r109 : List Res := [.tmp 4]

/-- palantype/mend.all[palantype/mend.Number]$1 -/
def v110 : Code :=
  (.seq (.region [⟨some 2, .box (.t 0), none⟩, ⟨some 3, .mv (.con (.bool false)), none⟩] [1, 2])
  (.seq (.region [⟨some 4, .load false 1 (.t 1), none⟩, ⟨some 5, .load true 2 (.t 2), none⟩, ⟨some 6, .callV 1 (.t 4) [.t 5], none⟩, ⟨some 7, .not (.t 6), none⟩, ⟨some 3, .mv (.t 7), none⟩] [3])
  .ret))
def r110 : List Res := [.tmp 3]

/-- cmp.isNaN[int] -/
def v113 : Code :=
  (.seq (.region [⟨some 2, .mv (.con (.bool false)), none⟩] [0])
  (.seq (.region [⟨some 3, .mv (.t 0), none⟩, ⟨some 4, .mv (.t 0), none⟩, ⟨some 5, .cmp .neq (.t 3) (.t 4), none⟩, ⟨some 2, .mv (.t 5), none⟩] [2])
  .ret))
def r113 : List Res := [.tmp 2]

/-- (*palantype/mend.decided).inside -/
def v114 : Code :=
  (.seq (.region [⟨some 3, .box (.t 1), none⟩, ⟨some 4, .mv (.con (.bool false)), none⟩] [0, 3])
  (.seq (.region [⟨some 5, .fieldAddr 2 (.t 3), none⟩, ⟨some 6, .load false 1 (.t 5), none⟩, ⟨some 7, .cmp .geq (.t 6) (.con (.int .i64 0)), none⟩, ⟨some 8, .mv (.t 7), none⟩, ⟨some 9, .fieldAddr 3 (.t 3), some (8, true)⟩, ⟨some 10, .load false 1 (.t 9), some (8, true)⟩, ⟨some 11, .cmp .geq (.t 10) (.con (.int .i64 0)), some (8, true)⟩, ⟨some 12, .pick (.t 8) (.t 11) (.con (.bool false)), none⟩, ⟨some 13, .mv (.t 12), none⟩, ⟨some 14, .fieldAddr 2 (.t 3), some (13, true)⟩, ⟨some 15, .load false 1 (.t 14), some (13, true)⟩, ⟨some 16, .mv (.t 0), some (13, true)⟩, ⟨some 17, .nilCheck (.t 16), some (13, true)⟩, ⟨some 18, .fieldAddr 0 (.t 17), some (13, true)⟩, ⟨some 19, .fieldAddr 0 (.t 18), some (13, true)⟩, ⟨some 20, .load false 1 (.t 19), some (13, true)⟩, ⟨some 21, .len (.t 20), some (13, true)⟩, ⟨some 22, .fieldAddr 3 (.t 3), some (13, true)⟩, ⟨some 23, .load false 1 (.t 22), some (13, true)⟩, ⟨some 24, .arith .sub .i64 (.t 21) (.t 23), some (13, true)⟩, ⟨some 25, .cmp .leq (.t 15) (.t 24), some (13, true)⟩, ⟨some 26, .pick (.t 13) (.t 25) (.con (.bool false)), none⟩, ⟨some 4, .mv (.t 26), none⟩] [4])
  .ret))
def r114 : List Res := [.tmp 4]

/-- (*palantype/mend.decided).proper -/
def v115 : Code :=
  (.seq (.region [⟨some 3, .box (.t 1), none⟩, ⟨some 4, .mv (.con (.bool false)), none⟩] [3])
  (.seq (.region [⟨some 5, .fieldAddr 3 (.t 3), none⟩, ⟨some 6, .load false 1 (.t 5), none⟩, ⟨some 7, .cmp .leq (.t 6) (.con (.int .i64 8)), none⟩, ⟨some 8, .mv (.t 7), none⟩, ⟨some 9, .fieldAddr 4 (.t 3), some (8, true)⟩, ⟨some 10, .load false 1 (.t 9), some (8, true)⟩, ⟨some 11, .len (.t 10), some (8, true)⟩, ⟨some 12, .cmp .leq (.t 11) (.con (.int .i64 8)), some (8, true)⟩, ⟨some 13, .pick (.t 8) (.t 12) (.con (.bool false)), none⟩, ⟨some 14, .mv (.t 13), none⟩, ⟨some 15, .fieldAddr 4 (.t 3), some (14, true)⟩, ⟨some 16, .load false 1 (.t 15), some (14, true)⟩, ⟨some 17, .call 1 77 [.t 16, .con (.fn 78 [] [])], some (14, true)⟩, ⟨some 18, .pick (.t 14) (.t 17) (.con (.bool false)), none⟩, ⟨some 19, .mv (.t 18), none⟩, ⟨some 20, .fieldAddr 3 (.t 3), some (19, true)⟩, ⟨some 21, .load false 1 (.t 20), some (19, true)⟩, ⟨some 22, .fieldAddr 4 (.t 3), some (19, true)⟩, ⟨some 23, .load false 1 (.t 22), some (19, true)⟩, ⟨some 24, .len (.t 23), some (19, true)⟩, ⟨some 25, .arith .add .i64 (.t 21) (.t 24), some (19, true)⟩, ⟨some 26, .cmp .gtr (.t 25) (.con (.int .i64 0)), some (19, true)⟩, ⟨some 27, .pick (.t 19) (.t 26) (.con (.bool false)), none⟩, ⟨some 28, .mv (.t 27), none⟩, ⟨some 29, .fieldAddr 0 (.t 3), some (28, true)⟩, ⟨some 30, .load false 1 (.t 29), some (28, true)⟩, ⟨some 31, .call 1 84 [.t 30, .con (.int .i64 0), .con (.int .i64 999)], some (28, true)⟩, ⟨some 32, .pick (.t 28) (.t 31) (.con (.bool false)), none⟩, ⟨some 4, .mv (.t 32), none⟩] [4])
  .ret))
def r115 : List Res := [.tmp 4]

/-- (*palantype/mend.decided).own -/
def v116 : Code :=
  (.seq (.region [⟨some 3, .box (.t 1), none⟩, ⟨some 4, .mv (.con (.bool false)), none⟩] [0, 3])
  (.seq (.region [⟨some 6, .mkFn 143 [] [.t 3], none⟩, ⟨some 5, .mv (.t 6), none⟩] [0, 3, 5])
  (.seq (.seq (.region [⟨some 7, .fieldAddr 3 (.t 3), none⟩, ⟨some 8, .load false 1 (.t 7), none⟩, ⟨some 9, .cmp .gtr (.t 8) (.con (.int .i64 0)), none⟩] [0, 3, 5, 9])
  (.cond (.t 9) (.seq (.region [⟨some 10, .mv (.t 0), none⟩, ⟨some 11, .nilCheck (.t 10), none⟩, ⟨some 12, .fieldAddr 0 (.t 11), none⟩, ⟨some 13, .fieldAddr 0 (.t 12), none⟩, ⟨some 14, .load false 1 (.t 13), none⟩, ⟨some 15, .fieldAddr 2 (.t 3), none⟩, ⟨some 16, .load false 1 (.t 15), none⟩, ⟨some 17, .load true 5 (.t 3), none⟩, ⟨some 18, .call 1 69 [.t 17], none⟩, ⟨some 19, .cut 2 (.t 14) (some (.t 16)) (some (.t 18)), none⟩, ⟨some 20, .mv (.t 5), none⟩, ⟨some 21, .call 1 92 [.t 19, .t 20], none⟩, ⟨some 4, .mv (.t 21), none⟩] [4])
   .ret) .skip))
  (.seq (.region [⟨some 22, .mv (.t 0), none⟩, ⟨some 23, .nilCheck (.t 22), none⟩, ⟨some 24, .fieldAddr 0 (.t 23), none⟩, ⟨some 25, .fieldAddr 0 (.t 24), none⟩, ⟨some 26, .load false 1 (.t 25), none⟩, ⟨some 27, .fieldAddr 2 (.t 3), none⟩, ⟨some 28, .load false 1 (.t 27), none⟩, ⟨some 29, .arith .sub .i64 (.t 28) (.con (.int .i64 1)), none⟩, ⟨some 30, .max [.con (.int .i64 0), .t 29], none⟩, ⟨some 31, .mv (.t 0), none⟩, ⟨some 32, .nilCheck (.t 31), none⟩, ⟨some 33, .fieldAddr 0 (.t 32), none⟩, ⟨some 34, .fieldAddr 0 (.t 33), none⟩, ⟨some 35, .load false 1 (.t 34), none⟩, ⟨some 36, .len (.t 35), none⟩, ⟨some 37, .fieldAddr 2 (.t 3), none⟩, ⟨some 38, .load false 1 (.t 37), none⟩, ⟨some 39, .arith .add .i64 (.t 38) (.con (.int .i64 1)), none⟩, ⟨some 40, .min [.t 36, .t 39], none⟩, ⟨some 41, .cut 2 (.t 26) (some (.t 30)) (some (.t 40)), none⟩, ⟨some 42, .mv (.t 5), none⟩, ⟨some 43, .call 1 120 [.t 41, .t 42], none⟩, ⟨some 4, .mv (.t 43), none⟩] [4])
  .ret))))
def r116 : List Res := [.tmp 4]

/-- (*palantype/mend.decided).timely -/
def v117 : Code :=
  (.seq (.region [⟨some 3, .box (.t 1), none⟩, ⟨some 4, .mv (.con (.bool false)), none⟩] [0, 3])
  (.seq (.region [⟨some 5, .fieldAddr 1 (.t 3), none⟩, ⟨some 6, .load false 1 (.t 5), none⟩, ⟨some 7, .mv (.t 0), none⟩, ⟨some 8, .nilCheck (.t 7), none⟩, ⟨some 9, .fieldAddr 0 (.t 8), none⟩, ⟨some 10, .fieldAddr 1 (.t 9), none⟩, ⟨some 11, .load false 1 (.t 10), none⟩, ⟨some 12, .mv (.t 0), none⟩, ⟨some 13, .nilCheck (.t 12), none⟩, ⟨some 14, .fieldAddr 0 (.t 13), none⟩, ⟨some 15, .fieldAddr 1 (.t 14), none⟩, ⟨some 16, .load false 1 (.t 15), none⟩, ⟨some 17, .mv (.t 0), none⟩, ⟨some 18, .nilCheck (.t 17), none⟩, ⟨some 19, .fieldAddr 0 (.t 18), none⟩, ⟨some 20, .fieldAddr 2 (.t 19), none⟩, ⟨some 21, .load false 1 (.t 20), none⟩, ⟨some 22, .arith .add .i64 (.t 16) (.t 21), none⟩, ⟨some 23, .call 1 84 [.t 6, .t 11, .t 22], none⟩, ⟨some 4, .mv (.t 23), none⟩] [4])
  .ret))
def r117 : List Res := [.tmp 4]

/-- (*palantype/mend.decided).kept -/
def v118 : Code :=
  (.seq (.region [⟨some 3, .box (.t 1), none⟩, ⟨some 4, .mv (.con (.bool false)), none⟩] [0, 3])
  (.seq (.region [⟨some 5, .mv (.t 0), none⟩, ⟨some 6, .nilCheck (.t 5), none⟩, ⟨some 7, .fieldAddr 3 (.t 6), none⟩, ⟨some 8, .load true 2 (.t 7), none⟩, ⟨some 9, .mv (.t 0), none⟩, ⟨some 10, .nilCheck (.t 9), none⟩, ⟨some 11, .fieldAddr 3 (.t 10), none⟩, ⟨some 12, .fieldAddr 0 (.t 11), none⟩, ⟨some 13, .load false 1 (.t 12), none⟩, ⟨some 14, .mv (.t 0), none⟩, ⟨some 15, .nilCheck (.t 14), none⟩, ⟨some 16, .fieldAddr 0 (.t 15), none⟩, ⟨some 17, .load true 3 (.t 16), none⟩, ⟨some 18, .fieldAddr 2 (.t 3), none⟩, ⟨some 19, .load false 1 (.t 18), none⟩, ⟨some 20, .load true 5 (.t 3), none⟩, ⟨some 21, .call 1 69 [.t 20], none⟩, ⟨some 22, .call 0 68 [.t 17, .t 19, .t 21], none⟩, ⟨some 23, .call 0 54 [.t 13, .t 22], none⟩, ⟨some 24, .mv (.t 0), none⟩, ⟨some 25, .nilCheck (.t 24), none⟩, ⟨some 26, .fieldAddr 3 (.t 25), none⟩, ⟨some 27, .fieldAddr 0 (.t 26), none⟩, ⟨some 28, .load false 1 (.t 27), none⟩, ⟨some 29, .fieldAddr 4 (.t 3), none⟩, ⟨some 30, .load false 1 (.t 29), none⟩, ⟨some 31, .call 0 54 [.t 28, .t 30], none⟩, ⟨some 32, .call 1 144 [.t 8, .t 23, .t 31], none⟩, ⟨some 4, .mv (.t 32), none⟩] [4])
  .ret))
def r118 : List Res := [.tmp 4]

/-- (*palantype/mend.decided).free -/
def v119 : Code :=
  (.seq (.region [⟨some 3, .box (.t 1), none⟩, ⟨some 4, .mv (.con (.bool false)), none⟩] [0, 3])
  (.seq (.region [⟨some 5, .mv (.t 0), none⟩, ⟨some 6, .nilCheck (.t 5), none⟩, ⟨some 7, .fieldAddr 5 (.t 6), none⟩, ⟨some 8, .load false 1 (.t 7), none⟩, ⟨some 9, .load true 5 (.t 3), none⟩, ⟨some 10, .mkFn 146 [.t 9] [], none⟩, ⟨some 11, .call 1 145 [.t 8, .t 10], none⟩, ⟨some 12, .not (.t 11), none⟩, ⟨some 4, .mv (.t 12), none⟩] [4])
  .ret))
def r119 : List Res := [.tmp 4]

/-- slices.ContainsFunc[[]palantype/mend.Said,palantype/mend.Said] -/
def v120 : Code :=
  (.seq (.region [⟨some 4, .mv (.con (.bool false)), none⟩] [0, 1])
  (.seq (.region [⟨some 5, .mv (.t 0), none⟩, ⟨some 6, .mv (.t 1), none⟩, ⟨some 7, .call 1 147 [.t 5, .t 6], none⟩, ⟨some 8, .cmp .geq (.t 7) (.con (.int .i64 0)), none⟩, ⟨some 4, .mv (.t 8), none⟩] [4])
  .ret))
def r120 : List Res := [.tmp 4]

/-- palantype/mend.all[palantype/mend.Said]$1 -/
def v121 : Code :=
  (.seq (.region [⟨some 2, .box (.t 0), none⟩, ⟨some 3, .mv (.con (.bool false)), none⟩] [1, 2])
  (.seq (.region [⟨some 4, .load false 1 (.t 1), none⟩, ⟨some 5, .load true 2 (.t 2), none⟩, ⟨some 6, .callV 1 (.t 4) [.t 5], none⟩, ⟨some 7, .not (.t 6), none⟩, ⟨some 3, .mv (.t 7), none⟩] [3])
  .ret))
def r121 : List Res := [.tmp 3]

/-- slices.IndexFunc[[]palantype/mend.Swap,palantype/mend.Swap] -/
def v132 : Code :=
  (.seq (.region [⟨some 4, .mv (.con (.int .i64 0)), none⟩] [0, 1])
  (.seq (.seq (.region [⟨some 6, .mv (.t 0), none⟩, ⟨some 7, .len (.t 6), none⟩, ⟨some 8, .mv (.con (.int .i64 0)), none⟩] [0, 1, 7, 8])
  (.block 0 (.loop [0, 1, 7, 8] (.seq (.region [⟨some 9, .cmp .lss (.t 8) (.t 7), none⟩] [0, 1, 7, 8, 9])
    (.seq (.cond (.t 9) .skip (.exit 0))
    (.seq (.block 1 (.seq (.region [⟨some 10, .mv (.t 8), none⟩, ⟨some 5, .mv (.t 10), none⟩] [0, 1, 5, 7, 8])
     (.seq (.region [⟨some 11, .mv (.t 1), none⟩, ⟨some 12, .mv (.t 0), none⟩, ⟨some 13, .mv (.t 5), none⟩, ⟨some 14, .indexAddr 3 (.t 12) (.t 13), none⟩, ⟨some 15, .load true 3 (.t 14), none⟩, ⟨some 16, .callV 1 (.t 11) [.t 15], none⟩] [0, 1, 5, 7, 8, 16])
     (.cond (.t 16) (.seq (.region [⟨some 17, .mv (.t 5), none⟩, ⟨some 4, .mv (.t 17), none⟩] [4])
      .ret) .skip))))
    (.region [⟨some 18, .arith .add .i64 (.t 8) (.con (.int .i64 1)), none⟩, ⟨some 8, .mv (.t 18), none⟩] [0, 1, 7, 8])))))))
  (.seq (.region [⟨some 4, .mv (.con (.int .i64 (-1))), none⟩] [4])
  .ret)))
def r132 : List Res := [.tmp 4]

/-- slices.IndexFunc[[][]string,[]string] -/
def v133 : Code :=
  (.seq (.region [⟨some 4, .mv (.con (.int .i64 0)), none⟩] [0, 1])
  (.seq (.seq (.region [⟨some 6, .mv (.t 0), none⟩, ⟨some 7, .len (.t 6), none⟩, ⟨some 8, .mv (.con (.int .i64 0)), none⟩] [0, 1, 7, 8])
  (.block 0 (.loop [0, 1, 7, 8] (.seq (.region [⟨some 9, .cmp .lss (.t 8) (.t 7), none⟩] [0, 1, 7, 8, 9])
    (.seq (.cond (.t 9) .skip (.exit 0))
    (.seq (.block 1 (.seq (.region [⟨some 10, .mv (.t 8), none⟩, ⟨some 5, .mv (.t 10), none⟩] [0, 1, 5, 7, 8])
     (.seq (.region [⟨some 11, .mv (.t 1), none⟩, ⟨some 12, .mv (.t 0), none⟩, ⟨some 13, .mv (.t 5), none⟩, ⟨some 14, .indexAddr 1 (.t 12) (.t 13), none⟩, ⟨some 15, .load false 1 (.t 14), none⟩, ⟨some 16, .callV 1 (.t 11) [.t 15], none⟩] [0, 1, 5, 7, 8, 16])
     (.cond (.t 16) (.seq (.region [⟨some 17, .mv (.t 5), none⟩, ⟨some 4, .mv (.t 17), none⟩] [4])
      .ret) .skip))))
    (.region [⟨some 18, .arith .add .i64 (.t 8) (.con (.int .i64 1)), none⟩, ⟨some 8, .mv (.t 18), none⟩] [0, 1, 7, 8])))))))
  (.seq (.region [⟨some 4, .mv (.con (.int .i64 (-1))), none⟩] [4])
  .ret)))
def r133 : List Res := [.tmp 4]

/-- slices.IndexFunc[[]string,string] -/
def v134 : Code :=
  (.seq (.region [⟨some 4, .mv (.con (.int .i64 0)), none⟩] [0, 1])
  (.seq (.seq (.region [⟨some 6, .mv (.t 0), none⟩, ⟨some 7, .len (.t 6), none⟩, ⟨some 8, .mv (.con (.int .i64 0)), none⟩] [0, 1, 7, 8])
  (.block 0 (.loop [0, 1, 7, 8] (.seq (.region [⟨some 9, .cmp .lss (.t 8) (.t 7), none⟩] [0, 1, 7, 8, 9])
    (.seq (.cond (.t 9) .skip (.exit 0))
    (.seq (.block 1 (.seq (.region [⟨some 10, .mv (.t 8), none⟩, ⟨some 5, .mv (.t 10), none⟩] [0, 1, 5, 7, 8])
     (.seq (.region [⟨some 11, .mv (.t 1), none⟩, ⟨some 12, .mv (.t 0), none⟩, ⟨some 13, .mv (.t 5), none⟩, ⟨some 14, .indexAddr 1 (.t 12) (.t 13), none⟩, ⟨some 15, .load false 1 (.t 14), none⟩, ⟨some 16, .callV 1 (.t 11) [.t 15], none⟩] [0, 1, 5, 7, 8, 16])
     (.cond (.t 16) (.seq (.region [⟨some 17, .mv (.t 5), none⟩, ⟨some 4, .mv (.t 17), none⟩] [4])
      .ret) .skip))))
    (.region [⟨some 18, .arith .add .i64 (.t 8) (.con (.int .i64 1)), none⟩, ⟨some 8, .mv (.t 18), none⟩] [0, 1, 7, 8])))))))
  (.seq (.region [⟨some 4, .mv (.con (.int .i64 (-1))), none⟩] [4])
  .ret)))
def r134 : List Res := [.tmp 4]

/-- slices.ContainsFunc[[]byte,byte] -/
def v135 : Code :=
  (.seq (.region [⟨some 4, .mv (.con (.bool false)), none⟩] [0, 1])
  (.seq (.region [⟨some 5, .mv (.t 0), none⟩, ⟨some 6, .mv (.t 1), none⟩, ⟨some 7, .call 1 153 [.t 5, .t 6], none⟩, ⟨some 8, .cmp .geq (.t 7) (.con (.int .i64 0)), none⟩, ⟨some 4, .mv (.t 8), none⟩] [4])
  .ret))
def r135 : List Res := [.tmp 4]

/-- palantype/mend.all[byte]$1 -/
def v136 : Code :=
  (.seq (.region [⟨some 3, .mv (.con (.bool false)), none⟩] [0, 1])
  (.seq (.region [⟨some 4, .load false 1 (.t 1), none⟩, ⟨some 5, .mv (.t 0), none⟩, ⟨some 6, .callV 1 (.t 4) [.t 5], none⟩, ⟨some 7, .not (.t 6), none⟩, ⟨some 3, .mv (.t 7), none⟩] [3])
  .ret))
def r136 : List Res := [.tmp 3]

/-- slices.Index[[]palantype/mend.Swap,palantype/mend.Swap] -/
def v137 : Code :=
  (.seq (.region [⟨some 3, .box (.t 1), none⟩, ⟨some 4, .mv (.con (.int .i64 0)), none⟩] [0, 3])
  (.seq (.seq (.region [⟨some 6, .mv (.t 0), none⟩, ⟨some 7, .len (.t 6), none⟩, ⟨some 8, .mv (.con (.int .i64 0)), none⟩] [0, 3, 7, 8])
  (.block 0 (.loop [0, 3, 7, 8] (.seq (.region [⟨some 9, .cmp .lss (.t 8) (.t 7), none⟩] [0, 3, 7, 8, 9])
    (.seq (.cond (.t 9) .skip (.exit 0))
    (.seq (.block 1 (.seq (.region [⟨some 10, .mv (.t 8), none⟩, ⟨some 5, .mv (.t 10), none⟩] [0, 3, 5, 7, 8])
     (.seq (.region [⟨some 11, .load true 3 (.t 3), none⟩, ⟨some 12, .mv (.t 0), none⟩, ⟨some 13, .mv (.t 5), none⟩, ⟨some 14, .indexAddr 3 (.t 12) (.t 13), none⟩, ⟨some 15, .load true 3 (.t 14), none⟩, ⟨some 16, .aggEq false [0, 0, 0] (.t 11) (.t 15), none⟩] [0, 3, 5, 7, 8, 16])
     (.cond (.t 16) (.seq (.region [⟨some 17, .mv (.t 5), none⟩, ⟨some 4, .mv (.t 17), none⟩] [4])
      .ret) .skip))))
    (.region [⟨some 18, .arith .add .i64 (.t 8) (.con (.int .i64 1)), none⟩, ⟨some 8, .mv (.t 18), none⟩] [0, 3, 7, 8])))))))
  (.seq (.region [⟨some 4, .mv (.con (.int .i64 (-1))), none⟩] [4])
  .ret)))
def r137 : List Res := [.tmp 4]

/-- slices.IndexFunc[[]palantype/mend.Number,palantype/mend.Number] -/
def v141 : Code :=
  (.seq (.region [⟨some 4, .mv (.con (.int .i64 0)), none⟩] [0, 1])
  (.seq (.seq (.region [⟨some 6, .mv (.t 0), none⟩, ⟨some 7, .len (.t 6), none⟩, ⟨some 8, .mv (.con (.int .i64 0)), none⟩] [0, 1, 7, 8])
  (.block 0 (.loop [0, 1, 7, 8] (.seq (.region [⟨some 9, .cmp .lss (.t 8) (.t 7), none⟩] [0, 1, 7, 8, 9])
    (.seq (.cond (.t 9) .skip (.exit 0))
    (.seq (.block 1 (.seq (.region [⟨some 10, .mv (.t 8), none⟩, ⟨some 5, .mv (.t 10), none⟩] [0, 1, 5, 7, 8])
     (.seq (.region [⟨some 11, .mv (.t 1), none⟩, ⟨some 12, .mv (.t 0), none⟩, ⟨some 13, .mv (.t 5), none⟩, ⟨some 14, .indexAddr 2 (.t 12) (.t 13), none⟩, ⟨some 15, .load true 2 (.t 14), none⟩, ⟨some 16, .callV 1 (.t 11) [.t 15], none⟩] [0, 1, 5, 7, 8, 16])
     (.cond (.t 16) (.seq (.region [⟨some 17, .mv (.t 5), none⟩, ⟨some 4, .mv (.t 17), none⟩] [4])
      .ret) .skip))))
    (.region [⟨some 18, .arith .add .i64 (.t 8) (.con (.int .i64 1)), none⟩, ⟨some 8, .mv (.t 18), none⟩] [0, 1, 7, 8])))))))
  (.seq (.region [⟨some 4, .mv (.con (.int .i64 (-1))), none⟩] [4])
  .ret)))
def r141 : List Res := [.tmp 4]

/-- (*palantype/mend.decided).own$1 -/
def v143 : Code :=
  (.seq (.region [⟨some 2, .box (.t 0), none⟩, ⟨some 3, .mv (.con (.bool false)), none⟩] [1, 2])
  (.seq (.region [⟨some 4, .fieldAddr 1 (.t 2), none⟩, ⟨some 5, .load false 1 (.t 4), none⟩, ⟨some 6, .fieldAddr 0 (.t 1), none⟩, ⟨some 7, .load false 1 (.t 6), none⟩, ⟨some 8, .cmp .eql (.t 5) (.t 7), none⟩, ⟨some 3, .mv (.t 8), none⟩] [3])
  .ret))
def r143 : List Res := [.tmp 3]

/-- (palantype/mend.rules).keeps -/
def v144 : Code :=
  (.seq (.region [⟨some 3, .box (.t 0), none⟩, ⟨some 6, .mv (.con (.bool false)), none⟩] [1, 2, 3])
  (.seq (.region [⟨some 7, .mv (.t 1), none⟩, ⟨some 8, .mv (.t 2), none⟩, ⟨some 9, .load true 2 (.t 3), none⟩, ⟨some 10, .mkFn 79 [.t 9] [], none⟩, ⟨some 11, .call 1 161 [.t 7, .t 8, .t 10], none⟩, ⟨some 6, .mv (.t 11), none⟩] [6])
  .ret))
def r144 : List Res := [.tmp 6]

/-- slices.ContainsFunc[[]palantype/mend.Request,palantype/mend.Request] -/
def v145 : Code :=
  (.seq (.region [⟨some 4, .mv (.con (.bool false)), none⟩] [0, 1])
  (.seq (.region [⟨some 5, .mv (.t 0), none⟩, ⟨some 6, .mv (.t 1), none⟩, ⟨some 7, .call 1 162 [.t 5, .t 6], none⟩, ⟨some 8, .cmp .geq (.t 7) (.con (.int .i64 0)), none⟩, ⟨some 4, .mv (.t 8), none⟩] [4])
  .ret))
def r145 : List Res := [.tmp 4]

/-- (palantype/mend.Request).meets -/
def v146 : Code :=
  (.seq (.region [⟨some 2, .box (.t 0), none⟩, ⟨some 3, .box (.t 1), none⟩, ⟨some 4, .mv (.con (.bool false)), none⟩] [2, 3])
  (.seq (.block 0 (.seq (.region [⟨some 6, .fieldAddr 3 (.t 2), none⟩, ⟨some 7, .load false 1 (.t 6), none⟩, ⟨some 8, .cmp .eql (.t 7) (.con (.int .i64 0)), none⟩, ⟨some 9, .mv (.t 8), none⟩, ⟨some 10, .fieldAddr 3 (.t 3), some (9, true)⟩, ⟨some 11, .load false 1 (.t 10), some (9, true)⟩, ⟨some 12, .cmp .eql (.t 11) (.con (.int .i64 0)), some (9, true)⟩, ⟨some 13, .pick (.t 9) (.t 12) (.con (.bool false)), none⟩, ⟨some 5, .mv (.t 13), none⟩] [2, 3, 5])
   (.cond (.t 5) (.seq (.region [⟨some 14, .fieldAddr 2 (.t 2), none⟩, ⟨some 15, .load false 1 (.t 14), none⟩, ⟨some 16, .fieldAddr 2 (.t 3), none⟩, ⟨some 17, .load false 1 (.t 16), none⟩, ⟨some 18, .cmp .eql (.t 15) (.t 17), none⟩, ⟨some 4, .mv (.t 18), none⟩] [4])
    .ret) (.seq (.region [⟨some 20, .fieldAddr 3 (.t 2), none⟩, ⟨some 21, .load false 1 (.t 20), none⟩, ⟨some 22, .cmp .eql (.t 21) (.con (.int .i64 0)), none⟩, ⟨some 19, .mv (.t 22), none⟩] [2, 3, 19])
    (.cond (.t 19) (.seq (.region [⟨some 23, .fieldAddr 2 (.t 3), none⟩, ⟨some 24, .load false 1 (.t 23), none⟩, ⟨some 25, .fieldAddr 2 (.t 2), none⟩, ⟨some 26, .load false 1 (.t 25), none⟩, ⟨some 27, .cmp .lss (.t 24) (.t 26), none⟩, ⟨some 28, .mv (.t 27), none⟩, ⟨some 29, .fieldAddr 2 (.t 2), some (28, true)⟩, ⟨some 30, .load false 1 (.t 29), some (28, true)⟩, ⟨some 31, .load true 5 (.t 3), some (28, true)⟩, ⟨some 32, .call 1 69 [.t 31], some (28, true)⟩, ⟨some 33, .cmp .lss (.t 30) (.t 32), some (28, true)⟩, ⟨some 34, .pick (.t 28) (.t 33) (.con (.bool false)), none⟩, ⟨some 4, .mv (.t 34), none⟩] [4])
     .ret) (.seq (.region [⟨some 36, .fieldAddr 3 (.t 3), none⟩, ⟨some 37, .load false 1 (.t 36), none⟩, ⟨some 38, .cmp .eql (.t 37) (.con (.int .i64 0)), none⟩, ⟨some 35, .mv (.t 38), none⟩] [2, 3, 35])
     (.cond (.t 35) (.seq (.region [⟨some 39, .load true 5 (.t 3), none⟩, ⟨some 40, .load true 5 (.t 2), none⟩, ⟨some 41, .call 1 146 [.t 39, .t 40], none⟩, ⟨some 4, .mv (.t 41), none⟩] [4])
      .ret) .skip)))))))
  (.seq (.region [⟨some 42, .fieldAddr 2 (.t 2), none⟩, ⟨some 43, .load false 1 (.t 42), none⟩, ⟨some 44, .load true 5 (.t 3), none⟩, ⟨some 45, .call 1 69 [.t 44], none⟩, ⟨some 46, .cmp .lss (.t 43) (.t 45), none⟩, ⟨some 47, .mv (.t 46), none⟩, ⟨some 48, .fieldAddr 2 (.t 3), some (47, true)⟩, ⟨some 49, .load false 1 (.t 48), some (47, true)⟩, ⟨some 50, .load true 5 (.t 2), some (47, true)⟩, ⟨some 51, .call 1 69 [.t 50], some (47, true)⟩, ⟨some 52, .cmp .lss (.t 49) (.t 51), some (47, true)⟩, ⟨some 53, .pick (.t 47) (.t 52) (.con (.bool false)), none⟩, ⟨some 4, .mv (.t 53), none⟩] [4])
  .ret)))
def r146 : List Res := [.tmp 4]

/-- slices.IndexFunc[[]palantype/mend.Said,palantype/mend.Said] -/
def v147 : Code :=
  (.seq (.region [⟨some 4, .mv (.con (.int .i64 0)), none⟩] [0, 1])
  (.seq (.seq (.region [⟨some 6, .mv (.t 0), none⟩, ⟨some 7, .len (.t 6), none⟩, ⟨some 8, .mv (.con (.int .i64 0)), none⟩] [0, 1, 7, 8])
  (.block 0 (.loop [0, 1, 7, 8] (.seq (.region [⟨some 9, .cmp .lss (.t 8) (.t 7), none⟩] [0, 1, 7, 8, 9])
    (.seq (.cond (.t 9) .skip (.exit 0))
    (.seq (.block 1 (.seq (.region [⟨some 10, .mv (.t 8), none⟩, ⟨some 5, .mv (.t 10), none⟩] [0, 1, 5, 7, 8])
     (.seq (.region [⟨some 11, .mv (.t 1), none⟩, ⟨some 12, .mv (.t 0), none⟩, ⟨some 13, .mv (.t 5), none⟩, ⟨some 14, .indexAddr 2 (.t 12) (.t 13), none⟩, ⟨some 15, .load true 2 (.t 14), none⟩, ⟨some 16, .callV 1 (.t 11) [.t 15], none⟩] [0, 1, 5, 7, 8, 16])
     (.cond (.t 16) (.seq (.region [⟨some 17, .mv (.t 5), none⟩, ⟨some 4, .mv (.t 17), none⟩] [4])
      .ret) .skip))))
    (.region [⟨some 18, .arith .add .i64 (.t 8) (.con (.int .i64 1)), none⟩, ⟨some 8, .mv (.t 18), none⟩] [0, 1, 7, 8])))))))
  (.seq (.region [⟨some 4, .mv (.con (.int .i64 (-1))), none⟩] [4])
  .ret)))
def r147 : List Res := [.tmp 4]

/-- slices.IndexFunc[[]byte,byte] -/
def v153 : Code :=
  (.seq (.region [⟨some 4, .mv (.con (.int .i64 0)), none⟩] [0, 1])
  (.seq (.seq (.region [⟨some 6, .mv (.t 0), none⟩, ⟨some 7, .len (.t 6), none⟩, ⟨some 8, .mv (.con (.int .i64 0)), none⟩] [0, 1, 7, 8])
  (.block 0 (.loop [0, 1, 7, 8] (.seq (.region [⟨some 9, .cmp .lss (.t 8) (.t 7), none⟩] [0, 1, 7, 8, 9])
    (.seq (.cond (.t 9) .skip (.exit 0))
    (.seq (.block 1 (.seq (.region [⟨some 10, .mv (.t 8), none⟩, ⟨some 5, .mv (.t 10), none⟩] [0, 1, 5, 7, 8])
     (.seq (.region [⟨some 11, .mv (.t 1), none⟩, ⟨some 12, .mv (.t 0), none⟩, ⟨some 13, .mv (.t 5), none⟩, ⟨some 14, .indexAddr 1 (.t 12) (.t 13), none⟩, ⟨some 15, .load false 1 (.t 14), none⟩, ⟨some 16, .callV 1 (.t 11) [.t 15], none⟩] [0, 1, 5, 7, 8, 16])
     (.cond (.t 16) (.seq (.region [⟨some 17, .mv (.t 5), none⟩, ⟨some 4, .mv (.t 17), none⟩] [4])
      .ret) .skip))))
    (.region [⟨some 18, .arith .add .i64 (.t 8) (.con (.int .i64 1)), none⟩, ⟨some 8, .mv (.t 18), none⟩] [0, 1, 7, 8])))))))
  (.seq (.region [⟨some 4, .mv (.con (.int .i64 (-1))), none⟩] [4])
  .ret)))
def r153 : List Res := [.tmp 4]

/-- slices.EqualFunc[[]palantype/mend.Mark,[]palantype/mend.Mark,palantype/mend.Mark,palantype/mend.Mark] -/
def v161 : Code :=
  (.seq (.region [⟨some 6, .mv (.con (.bool false)), none⟩] [0, 1, 2])
  (.seq (.seq (.region [⟨some 10, .mv (.t 0), none⟩, ⟨some 11, .len (.t 10), none⟩, ⟨some 12, .mv (.t 1), none⟩, ⟨some 13, .len (.t 12), none⟩, ⟨some 14, .cmp .neq (.t 11) (.t 13), none⟩] [0, 1, 2, 14])
  (.cond (.t 14) (.seq (.region [⟨some 6, .mv (.con (.bool false)), none⟩] [6])
   .ret) .skip))
  (.seq (.seq (.region [⟨some 15, .mv (.t 0), none⟩, ⟨some 16, .len (.t 15), none⟩, ⟨some 17, .mv (.con (.int .i64 0)), none⟩] [1, 2, 15, 16, 17])
  (.block 0 (.loop [1, 2, 15, 16, 17] (.seq (.region [⟨some 18, .cmp .lss (.t 17) (.t 16), none⟩] [1, 2, 15, 16, 17, 18])
    (.seq (.cond (.t 18) .skip (.exit 0))
    (.seq (.block 1 (.seq (.region [⟨some 19, .mv (.t 17), none⟩, ⟨some 20, .indexAddr 2 (.t 15) (.t 17), none⟩, ⟨some 21, .load true 2 (.t 20), none⟩, ⟨some 8, .alloc [.d (.int .u8 0), .d (.int .i64 0)], none⟩, ⟨some 7, .mv (.t 19), none⟩, ⟨none, .store true 2 (.t 8) (.t 21), none⟩] [1, 2, 7, 8, 15, 16, 17])
     (.seq (.region [⟨some 22, .mv (.t 1), none⟩, ⟨some 23, .mv (.t 7), none⟩, ⟨some 24, .indexAddr 2 (.t 22) (.t 23), none⟩, ⟨some 25, .load true 2 (.t 24), none⟩, ⟨some 9, .alloc [.d (.int .u8 0), .d (.int .i64 0)], none⟩, ⟨none, .store true 2 (.t 9) (.t 25), none⟩] [1, 2, 8, 9, 15, 16, 17])
     (.seq (.region [⟨some 26, .mv (.t 2), none⟩, ⟨some 27, .load true 2 (.t 8), none⟩, ⟨some 28, .load true 2 (.t 9), none⟩, ⟨some 29, .callV 1 (.t 26) [.t 27, .t 28], none⟩, ⟨some 30, .not (.t 29), none⟩] [1, 2, 15, 16, 17, 30])
     (.cond (.t 30) (.seq (.region [⟨some 6, .mv (.con (.bool false)), none⟩] [6])
      .ret) .skip)))))
    (.region [⟨some 31, .arith .add .i64 (.t 17) (.con (.int .i64 1)), none⟩, ⟨some 17, .mv (.t 31), none⟩] [1, 2, 15, 16, 17])))))))
  (.seq (.region [⟨some 6, .mv (.con (.bool true)), none⟩] [6])
  .ret))))
def r161 : List Res := [.tmp 6]

/-- slices.IndexFunc[[]palantype/mend.Request,palantype/mend.Request] -/
def v162 : Code :=
  (.seq (.region [⟨some 4, .mv (.con (.int .i64 0)), none⟩] [0, 1])
  (.seq (.seq (.region [⟨some 6, .mv (.t 0), none⟩, ⟨some 7, .len (.t 6), none⟩, ⟨some 8, .mv (.con (.int .i64 0)), none⟩] [0, 1, 7, 8])
  (.block 0 (.loop [0, 1, 7, 8] (.seq (.region [⟨some 9, .cmp .lss (.t 8) (.t 7), none⟩] [0, 1, 7, 8, 9])
    (.seq (.cond (.t 9) .skip (.exit 0))
    (.seq (.block 1 (.seq (.region [⟨some 10, .mv (.t 8), none⟩, ⟨some 5, .mv (.t 10), none⟩] [0, 1, 5, 7, 8])
     (.seq (.region [⟨some 11, .mv (.t 1), none⟩, ⟨some 12, .mv (.t 0), none⟩, ⟨some 13, .mv (.t 5), none⟩, ⟨some 14, .indexAddr 5 (.t 12) (.t 13), none⟩, ⟨some 15, .load true 5 (.t 14), none⟩, ⟨some 16, .callV 1 (.t 11) [.t 15], none⟩] [0, 1, 5, 7, 8, 16])
     (.cond (.t 16) (.seq (.region [⟨some 17, .mv (.t 5), none⟩, ⟨some 4, .mv (.t 17), none⟩] [4])
      .ret) .skip))))
    (.region [⟨some 18, .arith .add .i64 (.t 8) (.con (.int .i64 1)), none⟩, ⟨some 8, .mv (.t 18), none⟩] [0, 1, 7, 8])))))))
  (.seq (.region [⟨some 4, .mv (.con (.int .i64 (-1))), none⟩] [4])
  .ret)))
def r162 : List Res := [.tmp 4]

/-- slices.insertionSortCmpFunc[int] -/
def v122 : Code :=
  (.seq (.region [⟨some 10, .mv (.t 1), none⟩, ⟨some 11, .arith .add .i64 (.t 10) (.con (.int .i64 1)), none⟩, ⟨some 8, .mv (.t 11), none⟩] [0, 1, 2, 3, 8])
  (.block 0 (.loop [0, 1, 2, 3, 8] (.seq (.seq (.region [⟨some 12, .mv (.t 8), none⟩, ⟨some 13, .mv (.t 2), none⟩, ⟨some 14, .cmp .lss (.t 12) (.t 13), none⟩] [0, 1, 2, 3, 8, 14])
    (.cond (.t 14) .skip (.exit 0)))
    (.seq (.block 1 (.seq (.region [⟨some 17, .mv (.t 8), none⟩, ⟨some 9, .mv (.t 17), none⟩] [0, 1, 2, 3, 8, 9])
     (.block 2 (.loop [0, 1, 2, 3, 8, 9] (.seq (.seq (.region [⟨some 18, .mv (.t 9), none⟩, ⟨some 19, .mv (.t 1), none⟩, ⟨some 20, .cmp .gtr (.t 18) (.t 19), none⟩, ⟨some 21, .mv (.t 20), none⟩, ⟨some 22, .mv (.t 3), some (21, true)⟩, ⟨some 23, .mv (.t 0), some (21, true)⟩, ⟨some 24, .mv (.t 9), some (21, true)⟩, ⟨some 25, .indexAddr 1 (.t 23) (.t 24), some (21, true)⟩, ⟨some 26, .load false 1 (.t 25), some (21, true)⟩, ⟨some 27, .mv (.t 0), some (21, true)⟩, ⟨some 28, .mv (.t 9), some (21, true)⟩, ⟨some 29, .arith .sub .i64 (.t 28) (.con (.int .i64 1)), some (21, true)⟩, ⟨some 30, .indexAddr 1 (.t 27) (.t 29), some (21, true)⟩, ⟨some 31, .load false 1 (.t 30), some (21, true)⟩, ⟨some 32, .callV 1 (.t 22) [.t 26, .t 31], some (21, true)⟩, ⟨some 33, .cmp .lss (.t 32) (.con (.int .i64 0)), some (21, true)⟩, ⟨some 34, .pick (.t 21) (.t 33) (.con (.bool false)), none⟩] [0, 1, 2, 3, 8, 9, 34])
       (.cond (.t 34) .skip (.exit 2)))
       (.seq (.block 3 (.region [⟨some 37, .mv (.t 0), none⟩, ⟨some 38, .mv (.t 9), none⟩, ⟨some 39, .mv (.t 0), none⟩, ⟨some 40, .mv (.t 9), none⟩, ⟨some 41, .arith .sub .i64 (.t 40) (.con (.int .i64 1)), none⟩, ⟨some 42, .mv (.t 0), none⟩, ⟨some 43, .mv (.t 9), none⟩, ⟨some 44, .arith .sub .i64 (.t 43) (.con (.int .i64 1)), none⟩, ⟨some 45, .indexAddr 1 (.t 42) (.t 44), none⟩, ⟨some 46, .load false 1 (.t 45), none⟩, ⟨some 47, .mv (.t 0), none⟩, ⟨some 48, .mv (.t 9), none⟩, ⟨some 49, .indexAddr 1 (.t 47) (.t 48), none⟩, ⟨some 50, .load false 1 (.t 49), none⟩, ⟨some 51, .indexAddr 1 (.t 37) (.t 38), none⟩, ⟨none, .store false 1 (.t 51) (.t 46), none⟩, ⟨some 52, .indexAddr 1 (.t 39) (.t 41), none⟩, ⟨none, .store false 1 (.t 52) (.t 50), none⟩] [0, 1, 2, 3, 8, 9]))
       (.region [⟨some 35, .mv (.t 9), none⟩, ⟨some 36, .arith .sub .i64 (.t 35) (.con (.int .i64 1)), none⟩, ⟨some 9, .mv (.t 36), none⟩] [0, 1, 2, 3, 8, 9])))))))
    (.region [⟨some 15, .mv (.t 8), none⟩, ⟨some 16, .arith .add .i64 (.t 15) (.con (.int .i64 1)), none⟩, ⟨some 8, .mv (.t 16), none⟩] [0, 1, 2, 3, 8]))))))
def r122 : List Res := []

/-- slices.stableCmpFunc[int] -/
def v112 : Code :=
  (.seq (.region [⟨some 6, .mv (.con (.int .i64 20)), none⟩] [0, 1, 2, 6])
  (.seq (.region [⟨some 10, .mv (.t 6), none⟩, ⟨some 7, .mv (.con (.int .i64 0)), none⟩, ⟨some 8, .mv (.t 10), none⟩] [0, 1, 2, 6, 7, 8])
  (.seq (.block 0 (.loop [0, 1, 2, 6, 7, 8] (.seq (.seq (.region [⟨some 11, .mv (.t 8), none⟩, ⟨some 12, .mv (.t 1), none⟩, ⟨some 13, .cmp .leq (.t 11) (.t 12), none⟩] [0, 1, 2, 6, 7, 8, 13])
    (.cond (.t 13) .skip (.exit 0)))
    (.block 1 (.seq (.inl [⟨some 14, .mv (.t 0), none⟩, ⟨some 15, .mv (.t 7), none⟩, ⟨some 16, .mv (.t 8), none⟩, ⟨some 17, .mv (.t 2), none⟩] (some 18) none 122 4 [.t 14, .t 15, .t 16, .t 17] v122 r122 [] [0, 1, 2, 6, 8])
     (.seq (.region [⟨some 19, .mv (.t 8), none⟩, ⟨some 7, .mv (.t 19), none⟩] [0, 1, 2, 6, 7, 8])
     (.region [⟨some 20, .mv (.t 8), none⟩, ⟨some 21, .mv (.t 6), none⟩, ⟨some 22, .arith .add .i64 (.t 20) (.t 21), none⟩, ⟨some 8, .mv (.t 22), none⟩] [0, 1, 2, 6, 7, 8])))))))
  (.seq (.inl [⟨some 23, .mv (.t 0), none⟩, ⟨some 24, .mv (.t 7), none⟩, ⟨some 25, .mv (.t 1), none⟩, ⟨some 26, .mv (.t 2), none⟩] (some 27) none 122 4 [.t 23, .t 24, .t 25, .t 26] v122 r122 [] [0, 1, 2, 6])
  (.block 2 (.loop [0, 1, 2, 6] (.seq (.seq (.region [⟨some 28, .mv (.t 6), none⟩, ⟨some 29, .mv (.t 1), none⟩, ⟨some 30, .cmp .lss (.t 28) (.t 29), none⟩] [0, 1, 2, 6, 30])
    (.cond (.t 30) .skip (.exit 2)))
    (.block 3 (.seq (.region [⟨some 31, .mv (.t 6), none⟩, ⟨some 32, .arith .mul .i64 (.con (.int .i64 2)) (.t 31), none⟩, ⟨some 7, .mv (.con (.int .i64 0)), none⟩, ⟨some 8, .mv (.t 32), none⟩] [0, 1, 2, 6, 7, 8])
     (.seq (.block 4 (.loop [0, 1, 2, 6, 7, 8] (.seq (.seq (.region [⟨some 33, .mv (.t 8), none⟩, ⟨some 34, .mv (.t 1), none⟩, ⟨some 35, .cmp .leq (.t 33) (.t 34), none⟩] [0, 1, 2, 6, 7, 8, 35])
       (.cond (.t 35) .skip (.exit 4)))
       (.block 5 (.seq (.region [⟨some 36, .mv (.t 0), none⟩, ⟨some 37, .mv (.t 7), none⟩, ⟨some 38, .mv (.t 7), none⟩, ⟨some 39, .mv (.t 6), none⟩, ⟨some 40, .arith .add .i64 (.t 38) (.t 39), none⟩, ⟨some 41, .mv (.t 8), none⟩, ⟨some 42, .mv (.t 2), none⟩, ⟨some 43, .call 0 142 [.t 36, .t 37, .t 40, .t 41, .t 42], none⟩] [0, 1, 2, 6, 8])
        (.seq (.region [⟨some 44, .mv (.t 8), none⟩, ⟨some 7, .mv (.t 44), none⟩] [0, 1, 2, 6, 7, 8])
        (.region [⟨some 45, .mv (.t 8), none⟩, ⟨some 46, .mv (.t 6), none⟩, ⟨some 47, .arith .mul .i64 (.con (.int .i64 2)) (.t 46), none⟩, ⟨some 48, .arith .add .i64 (.t 45) (.t 47), none⟩, ⟨some 8, .mv (.t 48), none⟩] [0, 1, 2, 6, 7, 8])))))))
     (.seq (.seq (.region [⟨some 49, .mv (.t 7), none⟩, ⟨some 50, .mv (.t 6), none⟩, ⟨some 51, .arith .add .i64 (.t 49) (.t 50), none⟩, ⟨some 9, .mv (.t 51), none⟩] [0, 1, 2, 6, 7, 9])
     (.seq (.region [⟨some 52, .mv (.t 9), none⟩, ⟨some 53, .mv (.t 1), none⟩, ⟨some 54, .cmp .lss (.t 52) (.t 53), none⟩] [0, 1, 2, 6, 7, 9, 54])
     (.cond (.t 54) (.region [⟨some 55, .mv (.t 0), none⟩, ⟨some 56, .mv (.t 7), none⟩, ⟨some 57, .mv (.t 9), none⟩, ⟨some 58, .mv (.t 1), none⟩, ⟨some 59, .mv (.t 2), none⟩, ⟨some 60, .call 0 142 [.t 55, .t 56, .t 57, .t 58, .t 59], none⟩] [0, 1, 2, 6]) .skip)))
     (.region [⟨some 61, .mv (.t 6), none⟩, ⟨some 62, .arith .mul .i64 (.t 61) (.con (.int .i64 2)), none⟩, ⟨some 6, .mv (.t 62), none⟩] [0, 1, 2, 6]))))))))))))
def r112 : List Res := []

/-- slices.SortStableFunc[[]int,int] -/
def v87 : Code :=
  (.inl [⟨some 4, .mv (.t 0), none⟩, ⟨some 5, .mv (.t 0), none⟩, ⟨some 6, .len (.t 5), none⟩, ⟨some 7, .mv (.t 1), none⟩] (some 8) none 112 3 [.t 4, .t 6, .t 7] v112 r112 [] [])
def r87 : List Res := []

/-- palantype/mend.decide -/
def v59 : Code :=
  (.seq (.region [⟨some 4, .box (.t 0), none⟩, ⟨some 6, .box (.t 2), none⟩, ⟨some 7, .box (.t 3), none⟩, ⟨some 8, .mv (.con .ptr0), none⟩, ⟨some 9, .mv (.con (.int .i64 0)), none⟩] [1, 4, 6, 7])
  (.seq (.region [⟨some 19, .load true 3 (.t 4), none⟩, ⟨some 20, .mv (.t 1), none⟩, ⟨some 21, .call 0 51 [.t 19, .t 20], none⟩, ⟨some 18, .mv (.t 21), none⟩, ⟨some 22, .extract (.t 18) 0, none⟩, ⟨some 23, .extract (.t 18) 1, none⟩, ⟨some 10, .alloc [.d (.map0), .nil 109 3], none⟩, ⟨none, .store true 2 (.t 10) (.t 22), none⟩, ⟨some 11, .mv (.t 23), none⟩] [6, 7, 10, 11])
  (.seq (.seq (.region [⟨some 24, .mv (.t 11), none⟩, ⟨some 25, .cmp .neq (.t 24) (.con (.int .i64 0)), none⟩] [6, 7, 10, 11, 25])
  (.cond (.t 25) (.seq (.region [⟨some 26, .mv (.t 11), none⟩, ⟨some 8, .mv (.con .ptr0), none⟩, ⟨some 9, .mv (.t 26), none⟩] [8, 9])
   .ret) .skip))
  (.seq (.seq (.region [⟨some 27, .load true 3 (.t 6), none⟩, ⟨some 28, .call 1 61 [.t 27], none⟩, ⟨some 12, .mv (.t 28), none⟩] [6, 7, 10, 12])
  (.seq (.region [⟨some 29, .mv (.t 12), none⟩, ⟨some 30, .cmp .neq (.t 29) (.con (.int .i64 0)), none⟩] [6, 7, 10, 12, 30])
  (.cond (.t 30) (.seq (.region [⟨some 31, .mv (.t 12), none⟩, ⟨some 8, .mv (.con .ptr0), none⟩, ⟨some 9, .mv (.t 31), none⟩] [8, 9])
   .ret) .skip)))
  (.seq (.seq (.region [⟨some 32, .load false 1 (.t 7), none⟩, ⟨some 33, .len (.t 32), none⟩, ⟨some 34, .cmp .gtr (.t 33) (.con (.int .i64 20)), none⟩] [6, 7, 10, 34])
  (.cond (.t 34) (.seq (.region [⟨some 8, .mv (.con .ptr0), none⟩, ⟨some 9, .mv (.con (.int .i64 3)), none⟩] [8, 9])
   .ret) .skip))
  (.seq (.region [⟨some 35, .load true 3 (.t 6), none⟩, ⟨some 36, .load true 2 (.t 10), none⟩, ⟨some 37, .load false 1 (.t 7), none⟩, ⟨some 38, .len (.t 37), none⟩, ⟨some 39, .makeSlice 31 1 8 [.int .i64 0] (.t 38), none⟩, ⟨some 40, .build [.d (.row 0 []), .d (.int .i64 0), .d (.int .i64 0), .d (.map0), .d (.row 0 []), .nil 63 5, .nil 3 1, .d (.row 0 [])] [(0, 3, .t 35), (3, 2, .t 36), (7, 1, .t 39)], none⟩, ⟨some 41, .box (.t 40), none⟩, ⟨some 13, .mv (.t 41), none⟩] [7, 13])
  (.seq (.region [⟨some 14, .newNil 3 1, none⟩] [7, 13, 14])
  (.seq (.seq (.region [⟨some 42, .load false 1 (.t 7), none⟩, ⟨some 43, .len (.t 42), none⟩, ⟨some 44, .mv (.con (.int .i64 0)), none⟩] [7, 13, 14, 43, 44])
  (.block 0 (.loop [7, 13, 14, 43, 44] (.seq (.region [⟨some 45, .cmp .lss (.t 44) (.t 43), none⟩] [7, 13, 14, 43, 44, 45])
    (.seq (.cond (.t 45) .skip (.exit 0))
    (.seq (.block 1 (.seq (.region [⟨some 46, .mv (.t 44), none⟩, ⟨some 15, .mv (.t 46), none⟩] [7, 13, 14, 15, 43, 44])
     (.region [⟨some 47, .mv (.t 14), none⟩, ⟨some 48, .mv (.t 15), none⟩, ⟨some 49, .buildSlice 3 1 [.t 48], none⟩, ⟨some 50, .append 3 1 8 (.t 47) (.t 49), none⟩, ⟨some 14, .mv (.t 50), none⟩] [7, 13, 14, 43, 44])))
    (.region [⟨some 51, .arith .add .i64 (.t 44) (.con (.int .i64 1)), none⟩, ⟨some 44, .mv (.t 51), none⟩] [7, 13, 14, 43, 44])))))))
  (.seq (.inl [⟨some 52, .mv (.t 14), none⟩, ⟨some 53, .mkFn 88 [] [.t 7], none⟩] (some 54) none 87 2 [.t 52, .t 53] v87 r87 [] [7, 13, 14])
  (.seq (.seq (.region [⟨some 55, .mv (.t 14), none⟩, ⟨some 56, .len (.t 55), none⟩, ⟨some 57, .mv (.con (.int .i64 0)), none⟩] [7, 13, 55, 56, 57])
  (.block 2 (.loop [7, 13, 55, 56, 57] (.seq (.region [⟨some 58, .cmp .lss (.t 57) (.t 56), none⟩] [7, 13, 55, 56, 57, 58])
    (.seq (.cond (.t 58) .skip (.exit 2))
    (.seq (.block 3 (.seq (.region [⟨some 59, .indexAddr 1 (.t 55) (.t 57), none⟩, ⟨some 60, .load false 1 (.t 59), none⟩, ⟨some 17, .mv (.t 60), none⟩] [7, 13, 17, 55, 56, 57])
     (.seq (.region [⟨some 61, .mv (.t 13), none⟩, ⟨some 62, .nilCheck (.t 61), none⟩, ⟨some 63, .fieldAddr 7 (.t 62), none⟩, ⟨some 64, .load false 1 (.t 63), none⟩, ⟨some 65, .mv (.t 17), none⟩, ⟨some 66, .mv (.t 13), none⟩, ⟨some 67, .load false 1 (.t 7), none⟩, ⟨some 68, .mv (.t 17), none⟩, ⟨some 69, .indexAddr 5 (.t 67) (.t 68), none⟩, ⟨some 70, .load true 5 (.t 69), none⟩, ⟨some 71, .call 1 90 [.t 66, .t 70], none⟩, ⟨some 72, .indexAddr 1 (.t 64) (.t 65), none⟩, ⟨none, .store false 1 (.t 72) (.t 71), none⟩] [7, 13, 17, 55, 56, 57])
     (.seq (.region [⟨some 73, .mv (.t 13), none⟩, ⟨some 74, .nilCheck (.t 73), none⟩, ⟨some 75, .fieldAddr 7 (.t 74), none⟩, ⟨some 76, .load false 1 (.t 75), none⟩, ⟨some 77, .mv (.t 17), none⟩, ⟨some 78, .indexAddr 1 (.t 76) (.t 77), none⟩, ⟨some 79, .load false 1 (.t 78), none⟩, ⟨some 80, .cmp .eql (.t 79) (.con (.int .i64 0)), none⟩] [7, 13, 17, 55, 56, 57, 80])
     (.cond (.t 80) (.region [⟨some 81, .mv (.t 13), none⟩, ⟨some 82, .mv (.t 13), none⟩, ⟨some 83, .mv (.t 13), none⟩, ⟨some 84, .nilCheck (.t 83), none⟩, ⟨some 85, .fieldAddr 5 (.t 84), none⟩, ⟨some 86, .load false 1 (.t 85), none⟩, ⟨some 87, .load false 1 (.t 7), none⟩, ⟨some 88, .mv (.t 17), none⟩, ⟨some 89, .indexAddr 5 (.t 87) (.t 88), none⟩, ⟨some 90, .load true 5 (.t 89), none⟩, ⟨some 91, .buildSlice 63 5 [.t 90], none⟩, ⟨some 92, .append 63 5 56 (.t 86) (.t 91), none⟩, ⟨some 93, .mv (.t 13), none⟩, ⟨some 94, .nilCheck (.t 93), none⟩, ⟨some 95, .fieldAddr 6 (.t 94), none⟩, ⟨some 96, .load false 1 (.t 95), none⟩, ⟨some 97, .mv (.t 17), none⟩, ⟨some 98, .buildSlice 3 1 [.t 97], none⟩, ⟨some 99, .append 3 1 8 (.t 96) (.t 98), none⟩, ⟨some 100, .nilCheck (.t 81), none⟩, ⟨some 101, .fieldAddr 5 (.t 100), none⟩, ⟨none, .store false 1 (.t 101) (.t 92), none⟩, ⟨some 102, .nilCheck (.t 82), none⟩, ⟨some 103, .fieldAddr 6 (.t 102), none⟩, ⟨none, .store false 1 (.t 103) (.t 99), none⟩] [7, 13, 55, 56, 57]) .skip)))))
    (.region [⟨some 104, .arith .add .i64 (.t 57) (.con (.int .i64 1)), none⟩, ⟨some 57, .mv (.t 104), none⟩] [7, 13, 55, 56, 57])))))))
  (.seq (.region [⟨some 105, .mv (.t 13), none⟩, ⟨some 8, .mv (.t 105), none⟩, ⟨some 9, .mv (.con (.int .i64 0)), none⟩] [8, 9])
  .ret)))))))))))
def r59 : List Res := [.tmp 8, .tmp 9]

end Go.Vi
