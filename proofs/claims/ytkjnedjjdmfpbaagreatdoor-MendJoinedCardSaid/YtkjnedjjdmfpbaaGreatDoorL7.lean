/-
  MendJoined returns true at all typed arguments.
-/
import Derived.Test.YtkjnedjjdmfpbaaGreatDoorA5
import Derived.Test.YtkjnedjjdmfpbaaGreatDoorProg
import Derived.KernelRfl
import Derived.Test.YtkjnedjjdmfpbaaGreatDoorC1
import Derived.Test.YtkjnedjjdmfpbaaGreatDoorC2
import Derived.Test.YtkjnedjjdmfpbaaGreatDoorC3
import Derived.Test.YtkjnedjjdmfpbaaGreatDoorL8
import Derived.Test.YtkjnedjjdmfpbaaGreatDoorQ5
set_option linter.unusedVariables false
set_option linter.unusedSimpArgs false
set_option linter.unusedSectionVars false
namespace Go.Vi
open Go.Proofs
set_option maxRecDepth 100000
/-- palantype/palantypelaw04.MendJoined -/
def v7 : Code :=
  (.seq (.region [⟨some 3, .box (.t 0), none⟩, ⟨some 6, .mv (.con (.bool false)), none⟩] [1, 2, 3])
  (.seq (.seq (.region [⟨some 23, .load true 3 (.t 3), none⟩, ⟨some 24, .call 1 15 [.t 23, .nil], none⟩, ⟨some 25, .not (.t 24), none⟩, ⟨some 26, .mv (.t 25), none⟩, ⟨some 27, .load true 3 (.t 3), some (26, false)⟩, ⟨some 28, .call 1 34 [.t 27], some (26, false)⟩, ⟨some 29, .cmp .neq (.t 28) (.con (.int .i64 0)), some (26, false)⟩, ⟨some 30, .pick (.t 26) (.con (.bool true)) (.t 29), none⟩, ⟨some 31, .mv (.t 30), none⟩, ⟨some 32, .mv (.t 1), some (31, false)⟩, ⟨some 33, .call 1 16 [.t 32, .con (.int .i64 40)], some (31, false)⟩, ⟨some 34, .not (.t 33), some (31, false)⟩, ⟨some 35, .pick (.t 31) (.con (.bool true)) (.t 34), none⟩, ⟨some 36, .mv (.t 35), none⟩, ⟨some 37, .mv (.t 2), some (36, false)⟩, ⟨some 38, .call 1 16 [.t 37, .con (.int .i64 40)], some (36, false)⟩, ⟨some 39, .not (.t 38), some (36, false)⟩, ⟨some 40, .pick (.t 36) (.con (.bool true)) (.t 39), none⟩, ⟨some 41, .mv (.t 40), none⟩, ⟨some 42, .mv (.t 1), some (41, false)⟩, ⟨some 43, .call 1 23 [.t 42], some (41, false)⟩, ⟨some 44, .cmp .neq (.t 43) (.con (.int .i64 0)), some (41, false)⟩, ⟨some 45, .pick (.t 41) (.con (.bool true)) (.t 44), none⟩, ⟨some 46, .mv (.t 45), none⟩, ⟨some 47, .mv (.t 2), some (46, false)⟩, ⟨some 48, .call 1 23 [.t 47], some (46, false)⟩, ⟨some 49, .cmp .neq (.t 48) (.con (.int .i64 0)), some (46, false)⟩, ⟨some 50, .pick (.t 46) (.con (.bool true)) (.t 49), none⟩] [1, 2, 3, 50])
  (.cond (.t 50) (.seq (.region [⟨some 51, .call 1 17 [], none⟩, ⟨some 6, .mv (.t 51), none⟩] [6])
   .ret) .skip))
  (.seq (.inl [⟨some 53, .load true 3 (.t 3), none⟩, ⟨some 54, .call 0 19 [.t 53], none⟩, ⟨some 55, .mv (.t 1), none⟩] (some 56) none 21 1 [.t 55] v21 r21 [⟨some 57, .call 2 26 [.t 54, .t 56], none⟩, ⟨some 52, .mv (.t 57), none⟩, ⟨some 58, .extract (.t 52) 0, none⟩, ⟨some 59, .extract (.t 52) 1, none⟩, ⟨some 7, .mv (.t 58), none⟩, ⟨some 8, .mv (.t 59), none⟩] [1, 2, 3, 7, 8])
  (.seq (.inl [⟨some 61, .load true 3 (.t 3), none⟩, ⟨some 62, .call 0 19 [.t 61], none⟩, ⟨some 63, .mv (.t 2), none⟩] (some 64) none 21 1 [.t 63] v21 r21 [⟨some 65, .call 2 26 [.t 62, .t 64], none⟩, ⟨some 60, .mv (.t 65), none⟩, ⟨some 66, .extract (.t 60) 0, none⟩, ⟨some 67, .extract (.t 60) 1, none⟩, ⟨some 9, .mv (.t 66), none⟩, ⟨some 10, .mv (.t 67), none⟩] [1, 2, 3, 7, 8, 9, 10])
  (.seq (.inl [⟨some 69, .load true 3 (.t 3), none⟩, ⟨some 70, .call 0 19 [.t 69], none⟩, ⟨some 71, .mv (.t 1), none⟩] (some 72) none 21 1 [.t 71] v21 r21 [⟨some 73, .mv (.t 2), none⟩, ⟨some 74, .append 9 1 16 (.t 72) (.t 73), none⟩, ⟨some 75, .call 2 26 [.t 70, .t 74], none⟩, ⟨some 68, .mv (.t 75), none⟩, ⟨some 76, .extract (.t 68) 0, none⟩, ⟨some 77, .extract (.t 68) 1, none⟩, ⟨some 11, .mv (.t 76), none⟩, ⟨some 12, .mv (.t 77), none⟩] [1, 2, 3, 7, 8, 9, 10, 11, 12])
  (.seq (.seq (.region [⟨some 78, .mv (.t 8), none⟩, ⟨some 79, .cmp .neq (.t 78) (.con (.int .i64 0)), none⟩, ⟨some 80, .mv (.t 79), none⟩, ⟨some 81, .mv (.t 10), some (80, false)⟩, ⟨some 82, .cmp .neq (.t 81) (.con (.int .i64 0)), some (80, false)⟩, ⟨some 83, .pick (.t 80) (.con (.bool true)) (.t 82), none⟩, ⟨some 84, .mv (.t 83), none⟩, ⟨some 85, .mv (.t 12), some (84, false)⟩, ⟨some 86, .cmp .neq (.t 85) (.con (.int .i64 0)), some (84, false)⟩, ⟨some 87, .pick (.t 84) (.con (.bool true)) (.t 86), none⟩, ⟨some 88, .mv (.t 87), none⟩, ⟨some 89, .mv (.t 11), some (88, false)⟩, ⟨some 90, .len (.t 89), some (88, false)⟩, ⟨some 91, .mv (.t 7), some (88, false)⟩, ⟨some 92, .len (.t 91), some (88, false)⟩, ⟨some 93, .mv (.t 9), some (88, false)⟩, ⟨some 94, .len (.t 93), some (88, false)⟩, ⟨some 95, .arith .add .i64 (.t 92) (.t 94), some (88, false)⟩, ⟨some 96, .cmp .neq (.t 90) (.t 95), some (88, false)⟩, ⟨some 97, .pick (.t 88) (.con (.bool true)) (.t 96), none⟩] [1, 2, 3, 7, 9, 11, 97])
  (.cond (.t 97) (.seq (.region [⟨some 6, .mv (.con (.bool false)), none⟩] [6])
   .ret) .skip))
  (.seq (.region [⟨some 98, .mv (.t 7), none⟩, ⟨some 99, .append 79 2 16 .nil (.t 98), none⟩, ⟨some 100, .mv (.t 9), none⟩, ⟨some 101, .append 79 2 16 (.t 99) (.t 100), none⟩, ⟨some 13, .mv (.t 101), none⟩] [1, 2, 3, 11, 13])
  (.seq (.seq (.region [⟨some 14, .mv (.con (.int .i64 0)), none⟩] [1, 2, 3, 11, 13, 14])
  (.block 0 (.loop [1, 2, 3, 11, 13, 14] (.seq (.seq (.region [⟨some 102, .mv (.t 14), none⟩, ⟨some 103, .mv (.t 11), none⟩, ⟨some 104, .len (.t 103), none⟩, ⟨some 105, .cmp .lss (.t 102) (.t 104), none⟩] [1, 2, 3, 11, 13, 14, 105])
    (.cond (.t 105) .skip (.exit 0)))
    (.seq (.block 1 (.seq (.region [⟨some 108, .mv (.t 11), none⟩, ⟨some 109, .mv (.t 14), none⟩, ⟨some 110, .indexAddr 2 (.t 108) (.t 109), none⟩, ⟨some 111, .load true 2 (.t 110), none⟩, ⟨some 112, .mv (.t 13), none⟩, ⟨some 113, .mv (.t 14), none⟩, ⟨some 114, .indexAddr 2 (.t 112) (.t 113), none⟩, ⟨some 115, .load true 2 (.t 114), none⟩, ⟨some 116, .aggEq true [0, 0] (.t 111) (.t 115), none⟩] [1, 2, 3, 11, 13, 14, 116])
     (.cond (.t 116) (.seq (.region [⟨some 6, .mv (.con (.bool false)), none⟩] [6])
      .ret) .skip)))
    (.region [⟨some 106, .mv (.t 14), none⟩, ⟨some 107, .arith .add .i64 (.t 106) (.con (.int .i64 1)), none⟩, ⟨some 14, .mv (.t 107), none⟩] [1, 2, 3, 11, 13, 14]))))))
  (.seq (.region [⟨some 15, .alloc [.nil 9 1, .nil 9 1], none⟩] [1, 2, 3, 15])
  (.seq (.region [⟨some 117, .mv (.t 1), none⟩, ⟨some 118, .mv (.t 2), none⟩, ⟨some 119, .build [.d (.row 0 []), .d (.row 0 [])] [(0, 1, .t 117), (1, 1, .t 118)], none⟩, ⟨some 16, .alloc [.nil 9 1, .nil 9 1], none⟩, ⟨none, .store true 2 (.t 16) (.t 119), none⟩] [3, 15, 16])
  (.seq (.seq (.region [⟨some 17, .mv (.con (.int .i64 0)), none⟩] [3, 15, 16, 17])
  (.block 2 (.loop [3, 15, 16, 17] (.seq (.seq (.region [⟨some 120, .mv (.t 17), none⟩, ⟨some 121, .cmp .lss (.t 120) (.con (.int .i64 2)), none⟩] [3, 15, 16, 17, 121])
    (.cond (.t 121) .skip (.exit 2)))
    (.seq (.block 3 (.seq (.region [⟨some 18, .mv (.con (.int .i64 0)), none⟩] [3, 15, 16, 17, 18])
     (.block 4 (.loop [3, 15, 16, 17, 18] (.seq (.seq (.region [⟨some 124, .mv (.t 18), none⟩, ⟨some 125, .mv (.t 17), none⟩, ⟨some 126, .indexCells 2 1 (.t 16) (.t 125), none⟩, ⟨some 127, .load false 1 (.t 126), none⟩, ⟨some 128, .len (.t 127), none⟩, ⟨some 129, .cmp .lss (.t 124) (.t 128), none⟩] [3, 15, 16, 17, 18, 129])
       (.cond (.t 129) .skip (.exit 4)))
       (.seq (.block 5 (.seq (.region [⟨some 133, .load true 3 (.t 3), none⟩, ⟨some 134, .call 0 19 [.t 133], none⟩, ⟨some 135, .mv (.t 17), none⟩, ⟨some 136, .indexCells 2 1 (.t 16) (.t 135), none⟩, ⟨some 137, .load false 1 (.t 136), none⟩, ⟨some 138, .mv (.t 18), none⟩, ⟨some 139, .indexAddr 1 (.t 137) (.t 138), none⟩, ⟨some 140, .load false 1 (.t 139), none⟩, ⟨some 141, .buildSlice 9 1 [.t 140], none⟩, ⟨some 142, .call 2 26 [.t 134, .t 141], none⟩, ⟨some 132, .mv (.t 142), none⟩, ⟨some 143, .extract (.t 132) 0, none⟩, ⟨some 144, .extract (.t 132) 1, none⟩, ⟨some 19, .mv (.t 143), none⟩, ⟨some 20, .mv (.t 144), none⟩] [3, 15, 16, 17, 18, 19, 20])
        (.seq (.seq (.region [⟨some 145, .mv (.t 20), none⟩, ⟨some 146, .cmp .neq (.t 145) (.con (.int .i64 0)), none⟩] [3, 15, 16, 17, 18, 19, 146])
        (.cond (.t 146) (.seq (.region [⟨some 6, .mv (.con (.bool false)), none⟩] [6])
         .ret) .skip))
        (.seq (.region [⟨some 147, .mv (.t 19), none⟩, ⟨some 148, .len (.t 147), none⟩, ⟨some 149, .cmp .eql (.t 148) (.con (.int .i64 0)), none⟩] [3, 15, 16, 17, 18, 149])
        (.cond (.t 149) (.region [⟨some 150, .mv (.t 17), none⟩, ⟨some 151, .mv (.t 17), none⟩, ⟨some 152, .indexCells 2 1 (.t 15) (.t 151), none⟩, ⟨some 153, .load false 1 (.t 152), none⟩, ⟨some 154, .mv (.t 17), none⟩, ⟨some 155, .indexCells 2 1 (.t 16) (.t 154), none⟩, ⟨some 156, .load false 1 (.t 155), none⟩, ⟨some 157, .mv (.t 18), none⟩, ⟨some 158, .indexAddr 1 (.t 156) (.t 157), none⟩, ⟨some 159, .load false 1 (.t 158), none⟩, ⟨some 160, .buildSlice 9 1 [.t 159], none⟩, ⟨some 161, .append 9 1 16 (.t 153) (.t 160), none⟩, ⟨some 162, .indexCells 2 1 (.t 15) (.t 150), none⟩, ⟨none, .store false 1 (.t 162) (.t 161), none⟩] [3, 15, 16, 17, 18]) .skip)))))
       (.region [⟨some 130, .mv (.t 18), none⟩, ⟨some 131, .arith .add .i64 (.t 130) (.con (.int .i64 1)), none⟩, ⟨some 18, .mv (.t 131), none⟩] [3, 15, 16, 17, 18])))))))
    (.region [⟨some 122, .mv (.t 17), none⟩, ⟨some 123, .arith .add .i64 (.t 122) (.con (.int .i64 1)), none⟩, ⟨some 17, .mv (.t 123), none⟩] [3, 15, 16, 17]))))))
  (.seq (.region [⟨some 164, .load true 3 (.t 3), none⟩, ⟨some 165, .call 0 19 [.t 164], none⟩, ⟨some 166, .indexCells 2 1 (.t 15) (.con (.int .i64 0)), none⟩, ⟨some 167, .load false 1 (.t 166), none⟩, ⟨some 168, .indexCells 2 1 (.t 15) (.con (.int .i64 1)), none⟩, ⟨some 169, .load false 1 (.t 168), none⟩, ⟨some 170, .call 1 18 [.t 165, .nil, .t 167, .t 169], none⟩, ⟨some 163, .mv (.t 170), none⟩, ⟨some 171, .extract (.t 163) 0, none⟩, ⟨some 172, .extract (.t 163) 1, none⟩, ⟨some 21, .mv (.t 171), none⟩, ⟨some 22, .mv (.t 172), none⟩] [21, 22])
  (.seq (.region [⟨some 173, .mv (.t 22), none⟩, ⟨some 174, .cmp .eql (.t 173) (.con (.int .i64 0)), none⟩, ⟨some 175, .mv (.t 174), none⟩, ⟨some 176, .mv (.t 21), some (175, true)⟩, ⟨some 177, .cmp .eql (.t 176) (.con (.int .i64 0)), some (175, true)⟩, ⟨some 178, .pick (.t 175) (.t 177) (.con (.bool false)), none⟩, ⟨some 179, .mv (.t 178), none⟩, ⟨some 180, .call 1 17 [], some (179, true)⟩, ⟨some 181, .pick (.t 179) (.t 180) (.con (.bool false)), none⟩, ⟨some 6, .mv (.t 181), none⟩] [6])
  .ret)))))))))))))
def r7 : List Res := [.tmp 6]

theorem c7 : chkFn Tryz.prog 7 3 v7 r7 = true := by kernel_rfl
end Go.Vi
namespace Go.Vi
open Go.Proofs
set_option maxRecDepth 100000
set_option linter.unusedVariables false
set_option linter.unusedSimpArgs false
theorem listedS_of {l : List ByteArray} (h1 : l.length ≤ 80) (h2 : ∀ s ∈ l, textOk s = true) : listedS l = 0 := by
  rw [listedS, if_neg (by omega), if_pos (by simpa only [List.all_eq_true] using h2)]
theorem senseM_append (L : List (ByteArray × Mrk)) (a b : List ByteArray) : senseM L (a ++ b) = senseM L a ++ senseM L b := by simp [senseM]
/-- The texts without marks. -/
def plainS (L : List (ByteArray × Mrk)) (l : List ByteArray) : List ByteArray := l.filter fun s => (senseM L [s]).isEmpty
theorem plainS_sense (L : List (ByteArray × Mrk)) : ∀ l, senseM L (plainS L l) = []
  | [] => rfl
  | s :: r => by
    have ih := plainS_sense L r
    unfold plainS at ih ⊢
    rw [List.filter_cons]
    split
    · rename_i h
      have : senseM L [s] = [] := by simpa using h
      rw [show s :: List.filter (fun s => (senseM L [s]).isEmpty) r = [s] ++ List.filter (fun s => (senseM L [s]).isEmpty) r from rfl, senseM_append, this, ih]
      rfl
    · exact ih
theorem plainS_mem {L : List (ByteArray × Mrk)} {l : List ByteArray} {s : ByteArray} (h : s ∈ plainS L l) : s ∈ l := (List.mem_filter.1 h).1
set_option maxHeartbeats 16000000 in
theorem g7 {nums names nots e1 e2 e3} (hx : LexIn nums names nots e1 e2 e3) (la lb : List ByteArray) (ea eb : List (List D)) (ha : txE la ea) (hb : txE lb eb) (hsa : Short la) (hsb : Short lb) :
    GG 7 [(true, [.row 2 e1, .row 1 e2, .row 1 e3]), (false, [.row 1 ea]), (false, [.row 1 eb])] (.one (false, [.bool true])) := by
  have h15 := g15 nums names nots 0 e1 e2 e3 [] hx.he1 hx.he2 hx.he3 hx.hm1 hx.hm2 hx.hm3.1 (fun x h => (hx.hm4 x h).1)
  have h16a := g16 la ea ha hsa.1 40
  have h16b := g16 lb eb hb hsb.1 40
  have h23a := g23 la ea ha hsa
  have h23b := g23 lb eb hb hsb
  have h17 := g17
  cases c1 : thin nums names nots [].length
  · rw [c1] at h15
    clear hx
    refine start c7 rfl ?_
    intro r' hr G hG lt le eq add sub mul quo rem conv strEq strLt strCat strLen strAt strCut bytes ofBytes len nth cut fits app rep setEl look upd ne strNe H
    (try cbv)
    repeat' (first | ((refine callB (hG _ _ _ h15) ?_; intro b hb; subst hb); (try cbv)) | ((refine callB (hG _ _ _ h17) ?_; intro b hb; subst hb); (try cbv)) | fail)
    rw [hr]
  rw [c1] at h15
  have ht := (thinT c1).1
  have h34 := g34T hx ht
  by_cases d1 : readE nums names nots = 0
  rotate_left
  · generalize readE nums names nots = c at h34 d1
    clear hx
    refine start c7 rfl ?_
    intro r' hr G hG lt le eq add sub mul quo rem conv strEq strLt strCat strLen strAt strCut bytes ofBytes len nth cut fits app rep setEl look upd ne strNe H
    have n1 : ne c 0 = true := by rw [H.ne]; simpa using d1
    (try cbv)
    repeat' (first | ((refine callB (hG _ _ _ h15) ?_; intro b hb; subst hb); (try cbv)) | ((refine callI (hG _ _ _ h34) ?_; intro b hb; subst hb); (try cbv)) | (rw [n1]; (try cbv)) | ((refine callB (hG _ _ _ h17) ?_; intro b hb; subst hb); (try cbv)) | fail)
    rw [hr]
  rw [d1] at h34
  cases c2 : shortL la 40
  · rw [c2] at h16a
    clear hx
    refine start c7 rfl ?_
    intro r' hr G hG lt le eq add sub mul quo rem conv strEq strLt strCat strLen strAt strCut bytes ofBytes len nth cut fits app rep setEl look upd ne strNe H
    have n0 : ne 0 0 = false := by rw [H.ne]; rfl
    (try cbv)
    repeat' (first | ((refine callB (hG _ _ _ h15) ?_; intro b hb; subst hb); (try cbv)) | ((refine callI (hG _ _ _ h34) ?_; intro b hb; subst hb); (try cbv)) | (rw [n0]; (try cbv)) | ((refine callB (hG _ _ _ h16a) ?_; intro b hb; subst hb); (try cbv)) | ((refine callB (hG _ _ _ h17) ?_; intro b hb; subst hb); (try cbv)) | fail)
    rw [hr]
  rw [c2] at h16a
  cases c3 : shortL lb 40
  · rw [c3] at h16b
    clear hx
    refine start c7 rfl ?_
    intro r' hr G hG lt le eq add sub mul quo rem conv strEq strLt strCat strLen strAt strCut bytes ofBytes len nth cut fits app rep setEl look upd ne strNe H
    have n0 : ne 0 0 = false := by rw [H.ne]; rfl
    (try cbv)
    repeat' (first | ((refine callB (hG _ _ _ h15) ?_; intro b hb; subst hb); (try cbv)) | ((refine callI (hG _ _ _ h34) ?_; intro b hb; subst hb); (try cbv)) | (rw [n0]; (try cbv)) | ((refine callB (hG _ _ _ h16a) ?_; intro b hb; subst hb); (try cbv)) | ((refine callB (hG _ _ _ h16b) ?_; intro b hb; subst hb); (try cbv)) | ((refine callB (hG _ _ _ h17) ?_; intro b hb; subst hb); (try cbv)) | fail)
    rw [hr]
  rw [c3] at h16b
  by_cases d2 : listedS la = 0
  rotate_left
  · generalize listedS la = c at h23a d2
    clear hx
    refine start c7 rfl ?_
    intro r' hr G hG lt le eq add sub mul quo rem conv strEq strLt strCat strLen strAt strCut bytes ofBytes len nth cut fits app rep setEl look upd ne strNe H
    have n0 : ne 0 0 = false := by rw [H.ne]; rfl
    have n1 : ne c 0 = true := by rw [H.ne]; simpa using d2
    (try cbv)
    repeat' (first | ((refine callB (hG _ _ _ h15) ?_; intro b hb; subst hb); (try cbv)) | ((refine callI (hG _ _ _ h34) ?_; intro b hb; subst hb); (try cbv)) | (rw [n0]; (try cbv)) | ((refine callB (hG _ _ _ h16a) ?_; intro b hb; subst hb); (try cbv)) | ((refine callB (hG _ _ _ h16b) ?_; intro b hb; subst hb); (try cbv)) | ((refine callI (hG _ _ _ h23a) ?_; intro b hb; subst hb); (try cbv)) | (rw [n1]; (try cbv)) | ((refine callB (hG _ _ _ h17) ?_; intro b hb; subst hb); (try cbv)) | fail)
    rw [hr]
  rw [d2] at h23a
  by_cases d3 : listedS lb = 0
  rotate_left
  · generalize listedS lb = c at h23b d3
    clear hx
    refine start c7 rfl ?_
    intro r' hr G hG lt le eq add sub mul quo rem conv strEq strLt strCat strLen strAt strCut bytes ofBytes len nth cut fits app rep setEl look upd ne strNe H
    have n0 : ne 0 0 = false := by rw [H.ne]; rfl
    have n1 : ne c 0 = true := by rw [H.ne]; simpa using d3
    (try cbv)
    repeat' (first | ((refine callB (hG _ _ _ h15) ?_; intro b hb; subst hb); (try cbv)) | ((refine callI (hG _ _ _ h34) ?_; intro b hb; subst hb); (try cbv)) | (rw [n0]; (try cbv)) | ((refine callB (hG _ _ _ h16a) ?_; intro b hb; subst hb); (try cbv)) | ((refine callB (hG _ _ _ h16b) ?_; intro b hb; subst hb); (try cbv)) | ((refine callI (hG _ _ _ h23a) ?_; intro b hb; subst hb); (try cbv)) | ((refine callI (hG _ _ _ h23b) ?_; intro b hb; subst hb); (try cbv)) | (rw [n1]; (try cbv)) | ((refine callB (hG _ _ _ h17) ?_; intro b hb; subst hb); (try cbv)) | fail)
    rw [hr]
  rw [d3] at h23b
  obtain ⟨a80, aok⟩ := listedS_ok d2
  obtain ⟨b80, bok⟩ := listedS_ok d3
  have a40 : la.length ≤ 40 := by simp only [shortL, Bool.and_eq_true, decide_eq_true_eq] at c2; omega
  have b40 : lb.length ≤ 40 := by simp only [shortL, Bool.and_eq_true, decide_eq_true_eq] at c3; omega
  have h19 := g19T hx ht
  have sr : ∀ l : List ByteArray, l.length ≤ 80 → (∀ s ∈ l, textOk s = true) → ∀ es, txE l es → GG 26 [(true, [.row 2 e1, .row 1 e2, .row 1 e3]), (false, [.row 1 es])] (.many [(false, [.row 2 ((senseM (lexP nums names nots) l).map fun x => [.int .u8 x.k, .int .i64 x.v])]), (false, [.int .i64 0])]) := fun l h1 h2 es he => by
    have := g26 hx l es he ⟨by simp only [maxLen]; omega, fun s hs => by have := textOk_size (h2 s hs); simp only [maxLen]; omega⟩
    rwa [senseRes, senseE, if_pos d1, listedS_eq, if_pos (listedS_of h1 h2)] at this
  have h26a := sr la a80 aok ea ha
  have h26b := sr lb b80 bok eb hb
  have h26c := sr (la ++ lb) (by simp; omega) (fun s hs => by rcases List.mem_append.1 hs with h | h; exact aok s h; exact bok s h) (ea ++ eb) (by rw [txE, ha, hb, List.map_append])
  rw [senseM_append, List.map_append] at h26c
  have h26s : ∀ s, textOk s = true → GG 26 [(true, [.row 2 e1, .row 1 e2, .row 1 e3]), (false, [.row 1 [[.str s]]])] (.many [(false, [.row 2 ((senseM (lexP nums names nots) [s]).map fun x => [.int .u8 x.k, .int .i64 x.v])]), (false, [.int .i64 0])]) := fun s hs => sr [s] (by simp) (fun t ht => by rw [List.mem_singleton] at ht; subst ht; exact hs) _ rfl
  have pl : ∀ l : List ByteArray, l.length ≤ 40 → (plainS (lexP nums names nots) l).length ≤ 40 := fun l h => Nat.le_trans (List.length_filter_le _ _) h
  have psh : ∀ l : List ByteArray, l.length ≤ 40 → (∀ s ∈ l, textOk s = true) → Short (plainS (lexP nums names nots) l) := fun l h h2 => ⟨by have := pl l h; simp only [maxLen]; omega, fun s hs => by have := textOk_size (h2 s (plainS_mem hs)); simp only [maxLen]; omega⟩
  have h18 := GG.row0 (pre := [_]) 0 (g18 hx [] [] rfl (by simp [maxLen]) (plainS (lexP nums names nots) la) (plainS (lexP nums names nots) lb) _ _ rfl rfl (psh la a40 aok) (psh lb b40 bok))
  have htr : troubleR nums names nots [] (plainS (lexP nums names nots) la) (plainS (lexP nums names nots) lb) = .many [(false, [.int .i64 0]), (false, [.int .i64 0])] := by
    have h1 : ruledE nums names nots [] = 0 := by rw [ruledE, if_pos d1]; rfl
    have h2 : troubleE nums names nots [] (plainS (lexP nums names nots) la) (plainS (lexP nums names nots) lb) = 0 := by
      rw [troubleE, if_pos h1]
      unfold listedS'
      have p1 := pl la a40
      have p2 := pl lb b40
      rw [if_pos (by simp only [List.all_cons, List.all_nil, Bool.and_true, Bool.and_eq_true, decide_eq_true_eq]; omega), if_pos (by simp only [List.all_cons, List.all_nil, Bool.and_true, Bool.and_eq_true, List.all_eq_true]; exact ⟨fun s hs => aok s (plainS_mem hs), fun s hs => bok s (plainS_mem hs)⟩)]
    rw [troubleR, if_pos h2, troubleN, plainS_sense, plainS_sense]
    simp [levS]
  rw [htr] at h18
  have haok : ∀ (k : Nat) s, la[k]? = some s → textOk s = true := fun k s h => aok s (List.mem_of_getElem? h)
  have hbok : ∀ (k : Nat) s, lb[k]? = some s → textOk s = true := fun k s h => bok s (List.mem_of_getElem? h)
  have hSal := senseM_len (lexP nums names nots) la
  have hSbl := senseM_len (lexP nums names nots) lb
  obtain ⟨SA, hSA⟩ : ∃ S, S = (senseM (lexP nums names nots) la).map fun x : Mrk => [D.int .u8 x.k, .int .i64 x.v] := ⟨_, rfl⟩
  obtain ⟨SB, hSB⟩ : ∃ S, S = (senseM (lexP nums names nots) lb).map fun x : Mrk => [D.int .u8 x.k, .int .i64 x.v] := ⟨_, rfl⟩
  rw [← hSA] at h26a h26c
  rw [← hSB] at h26b h26c
  have hSAl : SA.length ≤ 40 := by rw [hSA, List.length_map]; omega
  have hSBl : SB.length ≤ 40 := by rw [hSB, List.length_map]; omega
  have hel : ∀ k, k < (SA ++ SB).length → ∃ a b : Int, (SA ++ SB)[k]? = some [D.int .u8 a, .int .i64 b] := fun k hk => by
    rw [hSA, hSB, ← List.map_append] at hk ⊢
    rw [List.length_map] at hk
    rw [List.getElem?_map, List.getElem?_eq_getElem hk]
    exact ⟨_, _, rfl⟩
  have h2a : ∀ cs ∈ SA, cs.length = 2 := by rw [hSA]; simp
  have h2b : ∀ cs ∈ SB, cs.length = 2 := by rw [hSB]; simp
  have hea := map_len ha
  have heb := map_len hb
  have h1a : ∀ cs ∈ ea, cs.length = 1 := by rw [show ea = _ from ha]; simp
  have h1b : ∀ cs ∈ eb, cs.length = 1 := by rw [show eb = _ from hb]; simp
  obtain ⟨Mk, hMk⟩ : ∃ F : ByteArray → List Mrk, ∀ s, F s = senseM (lexP nums names nots) [s] := ⟨_, fun _ => rfl⟩
  obtain ⟨PL, hPL⟩ : ∃ F : List ByteArray → List ByteArray, ∀ l, F l = plainS (lexP nums names nots) l := ⟨_, fun _ => rfl⟩
  have hPLs : ∀ (l : List ByteArray) (k : Nat) (s : ByteArray), l[k]? = some s → PL (l.take (k + 1)) = PL (l.take k) ++ (if (Mk s).isEmpty then [s] else []) := fun l k s h => by
    rw [hPL, hPL, List.take_add_one, h, plainS, plainS, List.filter_append, hMk]
    congr 1
    rw [Option.toList_some, List.filter_cons, List.filter_nil]
  have hPLl : ∀ (l : List ByteArray) (k : Nat), l.length ≤ 40 → (PL (l.take k)).length ≤ 40 := fun l k h => by
    rw [hPL]; exact pl _ (by simp; omega)
  have hPL0 : ∀ l : List ByteArray, PL (l.take 0) = [] := fun l => by rw [hPL]; rfl
  rw [← hPL, ← hPL] at h18
  have h26s : ∀ s, textOk s = true → GG 26 [(true, [.row 2 e1, .row 1 e2, .row 1 e3]), (false, [.row 1 [[.str s]]])] (.many [(false, [.row 2 ((Mk s).map fun x => [.int .u8 x.k, .int .i64 x.v])]), (false, [.int .i64 0])]) := fun s hs => by rw [hMk]; exact h26s s hs
  clear hx ht sr pl psh htr hMk hPL hSal hSbl hSA hSB aok bok
  refine start c7 rfl ?_
  intro r' hr G hG lt le eq add sub mul quo rem conv strEq strLt strCat strLen strAt strCut bytes ofBytes len nth cut fits app rep setEl look upd ne strNe H
  have n0 : ne 0 0 = false := by rw [H.ne]; rfl
  have z0 : eq 0 0 = true := by rw [H.eq]; rfl
  have fa : fits 16 ea = true := H.fitsLe (by omega) (by decide)
  have fb : fits 16 eb = true := H.fitsLe (by omega) (by decide)
  have fab : fits 16 (app ea eb) = true := H.fitsLe (by rw [H.app]; simp; omega) (by decide)
  have hab : app ea eb = ea ++ eb := H.app _ _
  rw [← hab] at h26c
  have hSS : app SA SB = SA ++ SB := H.app _ _
  rw [← hSS] at h26c hel
  have fA : fits 16 SA = true := H.fitsLe (by omega) (by decide)
  have fAB : fits 16 (app SA SB) = true := H.fitsLe (by rw [H.app]; simp; omega) (by decide)
  have nl : ne (len (app SA SB)) (add .i64 (len SA) (len SB)) = false := by
    rw [H.ne, H.add, H.len, H.len, H.len, H.app, wrap64 (by omega) (by omega)]; simp
  have hSSl : (app SA SB).length ≤ 80 := by rw [H.app]; simp; omega
  clear hab hSS
  have fP : ∀ (l : List ByteArray) k x, l.length ≤ 40 → fits 16 (app ((PL (l.take k)).map fun s => [D.str s]) [x]) = true := fun l k x h => H.fitsLe (by rw [H.app]; have := hPLl l k h; simp; omega) (by decide)
  obtain ⟨RW, hRW⟩ : ∃ F : List ByteArray → List (List D), ∀ l, F l = (PL l).map fun s => [D.str s] := ⟨_, fun _ => rfl⟩
  have fP : ∀ (l : List ByteArray) k x, l.length ≤ 40 → fits 16 (app (RW (l.take k)) [x]) = true := fun l k x h => by rw [hRW]; exact fP l k x h
  have hR0 : ∀ l : List ByteArray, RW (l.take 0) = [] := fun l => by rw [hRW, hPL0]; rfl
  have hRs : ∀ (l : List ByteArray) (k : Nat) (s : ByteArray), l[k]? = some s → (eq (len ((Mk s).map fun x => [D.int .u8 x.k, .int .i64 x.v])) 0 = true → app (RW (l.take k)) [[.str s]] = RW (l.take (k + 1))) ∧ (eq (len ((Mk s).map fun x => [D.int .u8 x.k, .int .i64 x.v])) 0 = false → RW (l.take k) = RW (l.take (k + 1))) := fun l k s h => by
    have he : eq (len ((Mk s).map fun x => [D.int .u8 x.k, .int .i64 x.v])) 0 = (Mk s).isEmpty := by
      rw [H.eq, H.len, List.length_map]
      cases Mk s <;> simp
      omega
    rw [he, hRW, hRW, hPLs l k s h, H.app, List.map_append]
    constructor
    · intro h2; rw [if_pos h2]; rfl
    · intro h2; rw [h2, if_neg (by decide)]; simp
  have h18 : GG 18 [(true, [.row 2 e1, .row 1 e2, .row 1 e3]), (false, [.row 0 []]), (false, [.row 1 (RW la)]), (false, [.row 1 (RW lb)])] (.many [(false, [.int .i64 0]), (false, [.int .i64 0])]) := by rw [hRW, hRW]; exact h18
  have hna : ∀ (k : Nat) s, la[k]? = some s → nth ea (Int.ofNat k) = some [.str s] := fun k s h => by
    rw [H.nth, if_pos (show (0 : Int) ≤ Int.ofNat k from Int.natCast_nonneg _), show ea = _ from ha]
    show (la.map fun s => [D.str s])[k]? = _
    rw [List.getElem?_map, h]; rfl
  have hnb : ∀ (k : Nat) s, lb[k]? = some s → nth eb (Int.ofNat k) = some [.str s] := fun k s h => by
    rw [H.nth, if_pos (show (0 : Int) ≤ Int.ofNat k from Int.natCast_nonneg _), show eb = _ from hb]
    show (lb.map fun s => [D.str s])[k]? = _
    rw [List.getElem?_map, h]; rfl
  clear hRW hPLs hPLl hPL0
  (try cbv)
  repeat' (first | ((refine callB (hG _ _ _ h15) ?_; intro b hb; subst hb); (try cbv)) | ((refine callI (hG _ _ _ h34) ?_; intro b hb; subst hb); (try cbv)) | (rw [n0]; (try cbv)) | ((refine callB (hG _ _ _ h16a) ?_; intro b hb; subst hb); (try cbv)) | ((refine callB (hG _ _ _ h16b) ?_; intro b hb; subst hb); (try cbv)) | ((refine callI (hG _ _ _ h23a) ?_; intro b hb; subst hb); (try cbv)) | ((refine callI (hG _ _ _ h23b) ?_; intro b hb; subst hb); (try cbv)) | ((refine call0 (hG _ _ _ h19) ?_); (try cbv)) | ((intro tm); (try cbv)) | (refine ⟨fa, ?_⟩; (try cbv)) | (refine ⟨lenOne rfl, ?_⟩; (try cbv)) | (refine ⟨fb, ?_⟩; (try cbv)) | (refine ⟨lenOne rfl, ?_⟩; (try cbv)) | (refine ⟨fab, ?_⟩; (try cbv)) | (refine ⟨lenOne rfl, ?_⟩; (try cbv)) | (refine ⟨h1a, ?_⟩; (try cbv)) | (refine ⟨lenOne rfl, ?_⟩; (try cbv)) | (refine ⟨h1b, ?_⟩; (try cbv)) | (refine ⟨lenOne rfl, ?_⟩; (try cbv)) | ((refine call0 (hG _ _ _ h26a) ?_); (try cbv)) | ((refine call0 (hG _ _ _ h26b) ?_); (try cbv)) | ((refine call0 (hG _ _ _ h26c) ?_); (try cbv)) | (rw [nl]; (try cbv)) | (refine ⟨fA, ?_⟩; (try cbv)) | (refine ⟨lenOne rfl, ?_⟩; (try cbv)) | (refine ⟨fAB, ?_⟩; (try cbv)) | (refine ⟨lenOne rfl, ?_⟩; (try cbv)) | (refine ⟨h2a, ?_⟩; (try cbv)) | (refine ⟨lenOne rfl, ?_⟩; (try cbv)) | (refine ⟨h2b, ?_⟩; (try cbv)) | (refine ⟨lenOne rfl, ?_⟩; (try cbv)) | fail)
  clear h15 h34 h16a h16b h23a h23b fa fb fab h1a h1b h26a h26b h26c nl fA fAB h2a h2b
  refine loopK ?_
  intro K hK
  obtain ⟨N, hN⟩ : ∃ N, N = (app SA SB).length := ⟨_, rfl⟩
  obtain ⟨P, hP⟩ : ∃ P : Nat → Prop, ∀ k, P k = (True) := ⟨_, fun _ => rfl⟩
  refine loopU N (fun k => [(1, .v false [.d (.row 1 ea)]), (2, .v false [.d (.row 1 eb)]), (3, .v false [.loc 0 0]), (11, .v false [.d (.row 2 (app SA SB))]), (13, .v false [.own 11]), (14, .v false [.d (.int .i64 (Int.ofNat k))])]) [(0, .blk [.d (.row 2 e1), .d (.row 1 e2), .d (.row 1 e3)]), (2, .arr 9 1 []), (5, .arr 9 1 []), (8, .arr 9 1 []), (11, .arr 79 2 (app SA SB))] P ⟨rfl, rfl⟩ ?_ ?_
  · rw [hP]; trivial
  intro k hk _
  rw [hN] at hk
  by_cases hkl : k < (app SA SB).length
  · have g1 : lt (Int.ofNat k) (len (app SA SB)) = true := by rw [H.lt, H.len]; exact decide_eq_true (Int.ofNat_lt.2 hkl)
    have g3 := H.inc hkl (show (app SA SB).length ≤ maxLen by simp only [maxLen]; omega)
    obtain ⟨x, y, hxy⟩ := hel k hkl
    have g2 : nth (app SA SB) (Int.ofNat k) = some [.int .u8 x, .int .i64 y] := by rw [H.nth, if_pos (show (0 : Int) ≤ Int.ofNat k from Int.natCast_nonneg _)]; exact hxy
    have e1 : eq x x = true := by rw [H.eq]; simp
    have e2 : eq y y = true := by rw [H.eq]; simp
    (try cbv)
    repeat' (first | (rw [g1]; (try cbv)) | (rw [g2]; (try cbv)) | (rw [e1]; (try cbv)) | (rw [e2]; (try cbv)) | fail)
    exact ⟨by rw [hN]; exact hkl, by rw [hP]; trivial, by rw [g3], trivial⟩
  have g1 : lt (Int.ofNat k) (len (app SA SB)) = false := by rw [H.lt, H.len]; exact decide_eq_false (fun h => hkl (Int.ofNat_lt.1 h))
  (try cbv)
  repeat' (first | (rw [g1]; (try cbv)) | (rw [hK]; (try cbv)) | fail)
  have t0 : lt (Int.ofNat 0) 2 = true := by rw [H.lt]; rfl
  have t1 : lt (Int.ofNat 1) 2 = true := by rw [H.lt]; rfl
  have t2 : lt (Int.ofNat 2) 2 = false := by rw [H.lt]; rfl
  have a0 : add .i64 (Int.ofNat 0) 1 = Int.ofNat 1 := by rw [H.add, wrap64 (by decide) (by decide)]; rfl
  have a1 : add .i64 (Int.ofNat 1) 1 = Int.ofNat 2 := by rw [H.add, wrap64 (by decide) (by decide)]; rfl
  obtain ⟨PA, pa0, pa1, pa2⟩ : ∃ f : Nat → List (List D), f 0 = [] ∧ f 1 = RW la ∧ f 2 = RW la := ⟨fun k => if k = 0 then [] else RW la, rfl, rfl, rfl⟩
  obtain ⟨PB, pb0, pb1, pb2⟩ : ∃ f : Nat → List (List D), f 0 = [] ∧ f 1 = [] ∧ f 2 = RW lb := ⟨fun k => if k = 2 then RW lb else [], rfl, rfl, rfl⟩
  refine loopK ?_
  intro K5 hK5
  obtain ⟨N5, hN5⟩ : ∃ N, N = 2 := ⟨_, rfl⟩
  obtain ⟨P5, hP5⟩ : ∃ P : Nat → Prop, ∀ k, P k = (True) := ⟨_, fun _ => rfl⟩
  refine loopV N5 (fun k => [(3, .v false [.loc 0 0]), (15, .v false [.loc 13 0]), (16, .v false [.loc 16 0]), (17, .v false [.d (.int .i64 (Int.ofNat k))])]) (fun k => [(0, .blk [.d (.row 2 e1), .d (.row 1 e2), .d (.row 1 e3)]), (2, .arr 9 1 []), (5, .arr 9 1 []), (8, .arr 9 1 []), (11, .arr 79 2 (app SA SB)), (13, .blk [.own 14, .own 15]), (14, .arr 9 1 (PA k)), (15, .arr 9 1 (PB k)), (16, .blk [.d (.row 1 ea), .d (.row 1 eb)]), (17, .arr 9 1 []), (18, .arr 9 1 [])]) P5 ?_ ?_ ?_
  · rw [pa0, pb0]; exact ⟨rfl, rfl⟩
  · rw [hP5]; trivial
  intro k5 hk5 _
  rw [hN5] at hk5
  obtain rfl | rfl | rfl : k5 = 0 ∨ k5 = 1 ∨ k5 = 2 := by omega
  · rw [pa0, pb0]
    (try cbv)
    repeat' (first | (rw [t0]; (try cbv)) | fail)
    refine loopK ?_
    intro K6 hK6
    obtain ⟨N6, hN6⟩ : ∃ N, N = la.length := ⟨_, rfl⟩
    obtain ⟨P6, hP6⟩ : ∃ P : Nat → Prop, ∀ k, P k = (True) := ⟨_, fun _ => rfl⟩
    refine loopV N6 (fun k => [(3, .v false [.loc 0 0]), (15, .v false [.loc 13 0]), (16, .v false [.loc 16 0]), (17, .v false [.d (.int .i64 (Int.ofNat 0))]), (18, .v false [.d (.int .i64 (Int.ofNat k))])]) (fun k => [(0, .blk [.d (.row 2 e1), .d (.row 1 e2), .d (.row 1 e3)]), (2, .arr 9 1 []), (5, .arr 9 1 []), (8, .arr 9 1 []), (11, .arr 79 2 (app SA SB)), (13, .blk [.own 14, .own 15]), (14, .arr 9 1 (RW (la.take k))), (15, .arr 9 1 ([])), (16, .blk [.d (.row 1 ea), .d (.row 1 eb)]), (17, .arr 9 1 []), (18, .arr 9 1 [])]) P6 ?_ ?_ ?_
    · rw [hR0]; exact ⟨rfl, rfl⟩
    · rw [hP6]; trivial
    intro i hi _
    rw [hN6] at hi
    by_cases hil : i < la.length
    · have g1 : lt (Int.ofNat i) (len ea) = true := by rw [H.lt, H.len, hea]; exact decide_eq_true (Int.ofNat_lt.2 hil)
      have g3 := H.inc hil (show la.length ≤ maxLen by simp only [maxLen]; omega)
      obtain ⟨s, hs⟩ : ∃ s, la[i]? = some s := ⟨_, List.getElem?_eq_getElem hil⟩
      have g2 := hna i s hs
      have g4 := h26s s (haok i s hs)
      obtain ⟨g5, g6⟩ := hRs la i s hs
      have g7 := fP la i [.str s] a40
      generalize (Mk s).map (fun x => [D.int .u8 x.k, .int .i64 x.v]) = MS at g4 g5 g6
      cases g8 : eq (len MS) 0
      · have g9 := g6 g8
        (try cbv)
        repeat' (first | (rw [g1]; (try cbv)) | ((refine call0 (hG _ _ _ h19) ?_); (try cbv)) | (rw [g2]; (try cbv)) | ((refine call0 (hG _ _ _ g4) ?_); (try cbv)) | (rw [n0]; (try cbv)) | (rw [g8]; (try cbv)) | fail)
        exact ⟨by rw [hN6]; exact hil, by rw [hP6]; trivial, by rw [g3], by rw [g9]⟩
      · have g9 := g5 g8
        (try cbv)
        repeat' (first | (rw [g1]; (try cbv)) | ((refine call0 (hG _ _ _ h19) ?_); (try cbv)) | (rw [g2]; (try cbv)) | ((refine call0 (hG _ _ _ g4) ?_); (try cbv)) | (rw [n0]; (try cbv)) | (rw [g8]; (try cbv)) | (refine ⟨g7, ?_⟩; (try cbv)) | (refine ⟨lenOne rfl, ?_⟩; (try cbv)) | fail)
        exact ⟨by rw [hN6]; exact hil, by rw [hP6]; trivial, by rw [g3], by rw [g9]⟩
    · have g1 : lt (Int.ofNat i) (len ea) = false := by rw [H.lt, H.len, hea]; exact decide_eq_false (fun h => hil (Int.ofNat_lt.1 h))
      have hin : i = la.length := by omega
      (try cbv)
      repeat' (first | (rw [g1]; (try cbv)) | (rw [hK6]; (try cbv)) | fail)
      exact ⟨by rw [hN5]; exact Nat.le_of_ble_eq_true rfl, by rw [hP5]; trivial, by rw [a0], by rw [hin, pa1, pb1, List.take_length]⟩
  · rw [pa1, pb1]
    (try cbv)
    repeat' (first | (rw [t1]; (try cbv)) | fail)
    refine loopK ?_
    intro K6 hK6
    obtain ⟨N6, hN6⟩ : ∃ N, N = lb.length := ⟨_, rfl⟩
    obtain ⟨P6, hP6⟩ : ∃ P : Nat → Prop, ∀ k, P k = (True) := ⟨_, fun _ => rfl⟩
    refine loopV N6 (fun k => [(3, .v false [.loc 0 0]), (15, .v false [.loc 13 0]), (16, .v false [.loc 16 0]), (17, .v false [.d (.int .i64 (Int.ofNat 1))]), (18, .v false [.d (.int .i64 (Int.ofNat k))])]) (fun k => [(0, .blk [.d (.row 2 e1), .d (.row 1 e2), .d (.row 1 e3)]), (2, .arr 9 1 []), (5, .arr 9 1 []), (8, .arr 9 1 []), (11, .arr 79 2 (app SA SB)), (13, .blk [.own 14, .own 15]), (14, .arr 9 1 (RW la)), (15, .arr 9 1 (RW (lb.take k))), (16, .blk [.d (.row 1 ea), .d (.row 1 eb)]), (17, .arr 9 1 []), (18, .arr 9 1 [])]) P6 ?_ ?_ ?_
    · rw [hR0]; exact ⟨rfl, rfl⟩
    · rw [hP6]; trivial
    intro i hi _
    rw [hN6] at hi
    by_cases hil : i < lb.length
    · have g1 : lt (Int.ofNat i) (len eb) = true := by rw [H.lt, H.len, heb]; exact decide_eq_true (Int.ofNat_lt.2 hil)
      have g3 := H.inc hil (show lb.length ≤ maxLen by simp only [maxLen]; omega)
      obtain ⟨s, hs⟩ : ∃ s, lb[i]? = some s := ⟨_, List.getElem?_eq_getElem hil⟩
      have g2 := hnb i s hs
      have g4 := h26s s (hbok i s hs)
      obtain ⟨g5, g6⟩ := hRs lb i s hs
      have g7 := fP lb i [.str s] b40
      generalize (Mk s).map (fun x => [D.int .u8 x.k, .int .i64 x.v]) = MS at g4 g5 g6
      cases g8 : eq (len MS) 0
      · have g9 := g6 g8
        (try cbv)
        repeat' (first | (rw [g1]; (try cbv)) | ((refine call0 (hG _ _ _ h19) ?_); (try cbv)) | (rw [g2]; (try cbv)) | ((refine call0 (hG _ _ _ g4) ?_); (try cbv)) | (rw [n0]; (try cbv)) | (rw [g8]; (try cbv)) | fail)
        exact ⟨by rw [hN6]; exact hil, by rw [hP6]; trivial, by rw [g3], by rw [g9]⟩
      · have g9 := g5 g8
        (try cbv)
        repeat' (first | (rw [g1]; (try cbv)) | ((refine call0 (hG _ _ _ h19) ?_); (try cbv)) | (rw [g2]; (try cbv)) | ((refine call0 (hG _ _ _ g4) ?_); (try cbv)) | (rw [n0]; (try cbv)) | (rw [g8]; (try cbv)) | (refine ⟨g7, ?_⟩; (try cbv)) | (refine ⟨lenOne rfl, ?_⟩; (try cbv)) | fail)
        exact ⟨by rw [hN6]; exact hil, by rw [hP6]; trivial, by rw [g3], by rw [g9]⟩
    · have g1 : lt (Int.ofNat i) (len eb) = false := by rw [H.lt, H.len, heb]; exact decide_eq_false (fun h => hil (Int.ofNat_lt.1 h))
      have hin : i = lb.length := by omega
      (try cbv)
      repeat' (first | (rw [g1]; (try cbv)) | (rw [hK6]; (try cbv)) | fail)
      exact ⟨by rw [hN5]; exact Nat.le_of_ble_eq_true rfl, by rw [hP5]; trivial, by rw [a1], by rw [hin, pa2, pb2, List.take_length]⟩
  · rw [pa2, pb2]
    (try cbv)
    repeat' (first | (rw [t2]; (try cbv)) | (rw [hK5]; (try cbv)) | ((refine call0 (hG _ _ _ h19) ?_); (try cbv)) | ((refine ⟨_, hG _ _ _ h18, rfl, ?_⟩); (try cbv)) | (rw [z0]; (try cbv)) | ((refine callB (hG _ _ _ h17) ?_; intro b hb; subst hb); (try cbv)) | fail)
    rw [hr]
theorem law7 (xs : List DV) (h : All2 (Typed Tryz.prog 6) [26, 24, 24] xs) : GG 7 xs (.one (false, [.bool true])) := by
  obtain ⟨⟨b1, d1⟩, ⟨b2, d2⟩, ⟨b3, d3⟩, rfl, ⟨h1, k1⟩, ⟨h2, k2⟩, ⟨h3, k3⟩⟩ := all2_three h
  obtain ⟨nums, names, nots, e1, e2, e3, rfl, hx⟩ := hasLex h1
  obtain ⟨la, ea, rfl, ha, hsa⟩ := hasTexts h2
  obtain ⟨lb, eb, rfl, hb, hsb⟩ := hasTexts h3
  dsimp only at k1 k2 k3
  rw [k1, k2, k3, lexArg, textsArg]
  exact g7 hx la lb ea eb ha hb hsa hsb
end Go.Vi
