/-
  MendOwn returns true at all typed arguments.
-/
import Derived.Test.YtkjnedjjdmfpbaaGreatDoorA5
import Derived.Test.YtkjnedjjdmfpbaaGreatDoorProg
import Derived.KernelRfl
import Derived.Test.YtkjnedjjdmfpbaaGreatDoorC1
import Derived.Test.YtkjnedjjdmfpbaaGreatDoorC2
import Derived.Test.YtkjnedjjdmfpbaaGreatDoorC3
import Derived.Test.YtkjnedjjdmfpbaaGreatDoorL8
import Derived.Test.YtkjnedjjdmfpbaaGreatDoorQ4
set_option linter.unusedVariables false
set_option linter.unusedSimpArgs false
set_option linter.unusedSectionVars false
namespace Go.Vi
open Go.Proofs
set_option maxRecDepth 100000
/-- palantype/palantypelaw04.MendOwn -/
def v5 : Code :=
  (.seq (.region [⟨some 4, .box (.t 0), none⟩, ⟨some 6, .box (.t 2), none⟩, ⟨some 8, .mv (.con (.bool false)), none⟩] [1, 3, 4, 6])
  (.seq (.seq (.region [⟨some 16, .load true 3 (.t 4), none⟩, ⟨some 17, .mv (.t 1), none⟩, ⟨some 18, .load true 3 (.t 6), none⟩, ⟨some 19, .mv (.t 3), none⟩, ⟨some 20, .call 1 30 [.t 16, .t 17, .t 18, .t 19], none⟩, ⟨some 21, .not (.t 20), none⟩] [1, 3, 4, 6, 21])
  (.cond (.t 21) (.seq (.region [⟨some 22, .call 1 17 [], none⟩, ⟨some 8, .mv (.t 22), none⟩] [8])
   .ret) .skip))
  (.seq (.region [⟨some 24, .load true 3 (.t 4), none⟩, ⟨some 25, .call 0 19 [.t 24], none⟩, ⟨some 26, .mv (.t 1), none⟩, ⟨some 27, .call 0 20 [.t 26], none⟩, ⟨some 28, .load true 3 (.t 6), none⟩, ⟨some 29, .call 0 31 [.t 28], none⟩, ⟨some 30, .mv (.t 3), none⟩, ⟨some 31, .call 0 32 [.t 30], none⟩, ⟨some 32, .call 0 29 [.t 25, .t 27, .t 29, .t 31], none⟩, ⟨some 23, .mv (.t 32), none⟩, ⟨some 33, .extract (.t 23) 0, none⟩, ⟨some 34, .extract (.t 23) 1, none⟩, ⟨some 9, .mv (.t 33), none⟩, ⟨some 10, .mv (.t 34), none⟩] [3, 6, 9, 10])
  (.seq (.seq (.region [⟨some 35, .mv (.t 10), none⟩, ⟨some 36, .cmp .neq (.t 35) (.con (.int .i64 0)), none⟩, ⟨some 37, .mv (.t 36), none⟩, ⟨some 38, .mv (.t 9), some (37, false)⟩, ⟨some 39, .len (.t 38), some (37, false)⟩, ⟨some 40, .mv (.t 3), some (37, false)⟩, ⟨some 41, .len (.t 40), some (37, false)⟩, ⟨some 42, .cmp .neq (.t 39) (.t 41), some (37, false)⟩, ⟨some 43, .pick (.t 37) (.con (.bool true)) (.t 42), none⟩] [3, 6, 9, 43])
  (.cond (.t 43) (.seq (.region [⟨some 8, .mv (.con (.bool false)), none⟩] [8])
   .ret) .skip))
  (.seq (.seq (.region [⟨some 11, .mv (.con (.int .i64 0)), none⟩] [3, 6, 9, 11])
  (.block 0 (.loop [3, 6, 9, 11] (.seq (.seq (.region [⟨some 44, .mv (.t 11), none⟩, ⟨some 45, .mv (.t 9), none⟩, ⟨some 46, .len (.t 45), none⟩, ⟨some 47, .cmp .lss (.t 44) (.t 46), none⟩] [3, 6, 9, 11, 47])
    (.cond (.t 47) .skip (.exit 0)))
    (.seq (.block 1 (.seq (.region [⟨some 50, .mv (.t 3), none⟩, ⟨some 51, .mv (.t 11), none⟩, ⟨some 52, .indexAddr 5 (.t 50) (.t 51), none⟩, ⟨some 53, .load true 5 (.t 52), none⟩, ⟨some 12, .alloc [.d (.int .i64 0), .d (.int .i64 0), .d (.int .i64 0), .d (.int .i64 0), .nil 9 1], none⟩, ⟨none, .store true 5 (.t 12) (.t 53), none⟩] [3, 6, 9, 11, 12])
     (.seq (.seq (.region [⟨some 54, .mv (.t 9), none⟩, ⟨some 55, .mv (.t 11), none⟩, ⟨some 56, .indexAddr 1 (.t 54) (.t 55), none⟩, ⟨some 57, .load false 1 (.t 56), none⟩, ⟨some 58, .cmp .neq (.t 57) (.con (.int .i64 0)), none⟩] [3, 6, 9, 11, 12, 58])
     (.cond (.t 58) (.exit 1) .skip))
     (.seq (.seq (.region [⟨some 59, .fieldAddr 2 (.t 12), none⟩, ⟨some 60, .load false 1 (.t 59), none⟩, ⟨some 61, .cmp .lss (.t 60) (.con (.int .i64 0)), none⟩, ⟨some 62, .mv (.t 61), none⟩, ⟨some 63, .fieldAddr 3 (.t 12), some (62, false)⟩, ⟨some 64, .load false 1 (.t 63), some (62, false)⟩, ⟨some 65, .cmp .lss (.t 64) (.con (.int .i64 0)), some (62, false)⟩, ⟨some 66, .pick (.t 62) (.con (.bool true)) (.t 65), none⟩, ⟨some 67, .mv (.t 66), none⟩, ⟨some 68, .fieldAddr 3 (.t 12), some (67, false)⟩, ⟨some 69, .load false 1 (.t 68), some (67, false)⟩, ⟨some 70, .cmp .gtr (.t 69) (.con (.int .i64 8)), some (67, false)⟩, ⟨some 71, .pick (.t 67) (.con (.bool true)) (.t 70), none⟩, ⟨some 72, .mv (.t 71), none⟩, ⟨some 73, .fieldAddr 2 (.t 12), some (72, false)⟩, ⟨some 74, .load false 1 (.t 73), some (72, false)⟩, ⟨some 75, .fieldAddr 3 (.t 12), some (72, false)⟩, ⟨some 76, .load false 1 (.t 75), some (72, false)⟩, ⟨some 77, .arith .add .i64 (.t 74) (.t 76), some (72, false)⟩, ⟨some 78, .fieldAddr 0 (.t 6), some (72, false)⟩, ⟨some 79, .load false 1 (.t 78), some (72, false)⟩, ⟨some 80, .len (.t 79), some (72, false)⟩, ⟨some 81, .cmp .gtr (.t 77) (.t 80), some (72, false)⟩, ⟨some 82, .pick (.t 72) (.con (.bool true)) (.t 81), none⟩, ⟨some 83, .mv (.t 82), none⟩, ⟨some 84, .fieldAddr 1 (.t 12), some (83, false)⟩, ⟨some 85, .load false 1 (.t 84), some (83, false)⟩, ⟨some 86, .fieldAddr 1 (.t 6), some (83, false)⟩, ⟨some 87, .load false 1 (.t 86), some (83, false)⟩, ⟨some 88, .cmp .lss (.t 85) (.t 87), some (83, false)⟩, ⟨some 89, .pick (.t 83) (.con (.bool true)) (.t 88), none⟩, ⟨some 90, .mv (.t 89), none⟩, ⟨some 91, .fieldAddr 1 (.t 12), some (90, false)⟩, ⟨some 92, .load false 1 (.t 91), some (90, false)⟩, ⟨some 93, .fieldAddr 1 (.t 6), some (90, false)⟩, ⟨some 94, .load false 1 (.t 93), some (90, false)⟩, ⟨some 95, .arith .sub .i64 (.t 92) (.t 94), some (90, false)⟩, ⟨some 96, .fieldAddr 2 (.t 6), some (90, false)⟩, ⟨some 97, .load false 1 (.t 96), some (90, false)⟩, ⟨some 98, .cmp .gtr (.t 95) (.t 97), some (90, false)⟩, ⟨some 99, .pick (.t 90) (.con (.bool true)) (.t 98), none⟩] [3, 6, 9, 11, 12, 99])
     (.cond (.t 99) (.seq (.region [⟨some 8, .mv (.con (.bool false)), none⟩] [8])
      .ret) .skip))
     (.seq (.region [⟨some 13, .mv (.con (.bool false)), none⟩] [3, 6, 9, 11, 12, 13])
     (.seq (.seq (.region [⟨some 100, .fieldAddr 2 (.t 12), none⟩, ⟨some 101, .load false 1 (.t 100), none⟩, ⟨some 102, .arith .sub .i64 (.t 101) (.con (.int .i64 1)), none⟩, ⟨some 14, .mv (.t 102), none⟩] [3, 6, 9, 11, 12, 13, 14])
     (.block 2 (.loop [3, 6, 9, 11, 12, 13, 14] (.seq (.seq (.region [⟨some 103, .mv (.t 14), none⟩, ⟨some 104, .fieldAddr 2 (.t 12), none⟩, ⟨some 105, .load false 1 (.t 104), none⟩, ⟨some 106, .fieldAddr 3 (.t 12), none⟩, ⟨some 107, .load false 1 (.t 106), none⟩, ⟨some 108, .arith .add .i64 (.t 105) (.t 107), none⟩, ⟨some 109, .cmp .leq (.t 103) (.t 108), none⟩] [3, 6, 9, 11, 12, 13, 14, 109])
       (.cond (.t 109) .skip (.exit 2)))
       (.seq (.block 3 (.seq (.region [⟨some 112, .mv (.t 14), none⟩, ⟨some 113, .fieldAddr 0 (.t 6), none⟩, ⟨some 114, .load false 1 (.t 113), none⟩, ⟨some 115, .len (.t 114), none⟩, ⟨some 116, .arith .sub .i64 (.t 115) (.con (.int .i64 1)), none⟩, ⟨some 117, .call 1 28 [.t 112, .con (.int .i64 0), .t 116], none⟩, ⟨some 118, .mv (.t 117), none⟩, ⟨some 119, .fieldAddr 0 (.t 6), some (118, true)⟩, ⟨some 120, .load false 1 (.t 119), some (118, true)⟩, ⟨some 121, .mv (.t 14), some (118, true)⟩, ⟨some 122, .indexAddr 2 (.t 120) (.t 121), some (118, true)⟩, ⟨some 123, .fieldAddr 1 (.t 122), some (118, true)⟩, ⟨some 124, .load false 1 (.t 123), some (118, true)⟩, ⟨some 125, .fieldAddr 0 (.t 12), some (118, true)⟩, ⟨some 126, .load false 1 (.t 125), some (118, true)⟩, ⟨some 127, .cmp .eql (.t 124) (.t 126), some (118, true)⟩, ⟨some 128, .pick (.t 118) (.t 127) (.con (.bool false)), none⟩, ⟨some 15, .mv (.t 128), none⟩] [3, 6, 9, 11, 12, 13, 14, 15])
        (.seq (.seq (.region [⟨some 129, .mv (.t 14), none⟩, ⟨some 130, .fieldAddr 2 (.t 12), none⟩, ⟨some 131, .load false 1 (.t 130), none⟩, ⟨some 132, .fieldAddr 2 (.t 12), none⟩, ⟨some 133, .load false 1 (.t 132), none⟩, ⟨some 134, .fieldAddr 3 (.t 12), none⟩, ⟨some 135, .load false 1 (.t 134), none⟩, ⟨some 136, .arith .add .i64 (.t 133) (.t 135), none⟩, ⟨some 137, .arith .sub .i64 (.t 136) (.con (.int .i64 1)), none⟩, ⟨some 138, .call 1 28 [.t 129, .t 131, .t 137], none⟩, ⟨some 139, .mv (.t 138), none⟩, ⟨some 140, .mv (.t 15), some (139, true)⟩, ⟨some 141, .not (.t 140), some (139, true)⟩, ⟨some 142, .pick (.t 139) (.t 141) (.con (.bool false)), none⟩] [3, 6, 9, 11, 12, 13, 14, 15, 142])
        (.cond (.t 142) (.seq (.region [⟨some 8, .mv (.con (.bool false)), none⟩] [8])
         .ret) .skip))
        (.region [⟨some 143, .mv (.t 13), none⟩, ⟨some 144, .mv (.t 143), none⟩, ⟨some 145, .mv (.t 15), some (144, false)⟩, ⟨some 146, .pick (.t 144) (.con (.bool true)) (.t 145), none⟩, ⟨some 13, .mv (.t 146), none⟩] [3, 6, 9, 11, 12, 13, 14]))))
       (.region [⟨some 110, .mv (.t 14), none⟩, ⟨some 111, .arith .add .i64 (.t 110) (.con (.int .i64 1)), none⟩, ⟨some 14, .mv (.t 111), none⟩] [3, 6, 9, 11, 12, 13, 14]))))))
     (.seq (.region [⟨some 147, .mv (.t 13), none⟩, ⟨some 148, .not (.t 147), none⟩] [3, 6, 9, 11, 148])
     (.cond (.t 148) (.seq (.region [⟨some 8, .mv (.con (.bool false)), none⟩] [8])
      .ret) .skip))))))))
    (.region [⟨some 48, .mv (.t 11), none⟩, ⟨some 49, .arith .add .i64 (.t 48) (.con (.int .i64 1)), none⟩, ⟨some 11, .mv (.t 49), none⟩] [3, 6, 9, 11]))))))
  (.seq (.region [⟨some 149, .call 1 17 [], none⟩, ⟨some 8, .mv (.t 149), none⟩] [8])
  .ret))))))
def r5 : List Res := [.tmp 8]

theorem c5 : chkFn Tryz.prog 5 4 v5 r5 = true := by kernel_rfl
end Go.Vi
namespace Go.Vi
open Go.Proofs
set_option maxRecDepth 100000
set_option linter.unusedVariables false
set_option linter.unusedSimpArgs false
theorem readyT {nums names nots sw l o w} {rq : List Rq} (h : readyB nums names nots sw l o w rq = true) : thin nums names nots sw.length = true ∧ few l rq = true ∧ decE nums names nots sw l o w rq.length = 0 := by
  simpa only [readyB, Bool.and_eq_true, decide_eq_true_eq] using h
theorem decE_ok {nums names nots sw l o w n} (h : decE nums names nots sw l o w n = 0) : ruledE nums names nots sw = 0 ∧ repE l o w = 0 ∧ n ≤ 20 := by
  unfold decE at h
  by_cases h1 : ruledE nums names nots sw = 0
  · rw [if_neg (by simpa using h1)] at h
    by_cases h2 : repE l o w = 0
    · rw [if_neg (by simpa using h2)] at h
      by_cases h3 : 20 < n
      · rw [if_pos h3] at h; cases h
      · exact ⟨h1, h2, by omega⟩
    · rw [if_pos h2] at h; exact absurd h h2
  · rw [if_pos h1] at h; exact absurd h h1
theorem repE_nums {l : List Sd} {o w : Int} (h : repE l o w = 0) : l.length ≤ 80 ∧ 0 ≤ o ∧ o ≤ 100000 ∧ 0 ≤ w ∧ w ≤ 100000 := by
  unfold repE at h
  split at h
  · rename_i h1
    simp only [repOk, inR, Bool.and_eq_true, decide_eq_true_eq] at h1
    omega
  · cases h
/-- What an accepted request is. -/
structure Fine (l : List Sd) (o w : Int) (q : Rq) (f c : Nat) : Prop where
  hf : q.frm = f
  hc : q.cut = c
  hfc : f + c ≤ l.length
  c8 : c ≤ 8
  p8 : q.put.length ≤ 8
  some : 0 < c + q.put.length
  own : ownS l f c q.by' = true
  m1 : o ≤ q.minute
  m2 : q.minute ≤ o + w
theorem fine_of {L sw l o w} {q : Rq} (hrep : repE l o w = 0) (hq : RqIn q) (h : aloneS L sw l o w q = 0) : ∃ f c, Fine l o w q f c ∧ keptS L sw l f c q.put = true ∧ ∀ s ∈ q.put, textOk s = true := by
  obtain ⟨r1, r2, r3, r4, r5⟩ := repE_nums hrep
  obtain ⟨h1, h2, h3, h4, h5⟩ := alone_zero h
  obtain ⟨f, c, hf, hc, hfc⟩ := inside_nat (show l.length ≤ 100000 by omega) hq.hc h1
  rw [hc, proper_eq q.by' c (by rw [← hc]; exact hq.hc) q.put hq.hp.1] at h2
  simp only [texts, Bool.and_eq_true, Bool.not_eq_true', Bool.and_eq_false_iff, decide_eq_true_eq, decide_eq_false_iff_not, List.all_eq_true] at h2
  rw [hf, hc, Int.toNat_natCast, Int.toNat_natCast] at h3 h5
  rw [w64, wrap64 (by omega) (by omega)] at h4
  simp only [inR, Bool.and_eq_true, decide_eq_true_eq] at h4
  refine ⟨f, c, ⟨hf, hc, hfc, by omega, by omega, by omega, h3, h4.1, h4.2⟩, h5, h2.2.1.1⟩
/-- Is one of the first k words from f - 1 on a member's? -/
def besideS (l : List Sd) (f : Nat) (b : Int) : Nat → Bool
  | 0 => false
  | k + 1 => besideS l f b k || ownsS l (((f + k : Nat) : Int) - 1) b
theorem besideS_of {l : List Sd} {f : Nat} {b : Int} : ∀ {k j : Nat}, j < k → ownsS l (((f + j : Nat) : Int) - 1) b = true → besideS l f b k = true
  | k + 1, j, hj, h => by
    rw [besideS]
    by_cases hjk : j = k
    · subst hjk; rw [h, Bool.or_true]
    · rw [besideS_of (by omega) h, Bool.true_or]
theorem own_word {l : List Sd} {f c : Nat} {b : Int} (h : ownS l f c b = true) (hfc : f + c ≤ l.length) (i : Nat) (h1 : f ≤ i) (h2 : i < f + c) : ownsS l i b = true := by
  rw [ownS, if_pos (by omega), List.all_eq_true] at h
  have hi : i < l.length := by omega
  have := h l[i] (by
    rw [List.mem_iff_getElem?]
    refine ⟨i - f, ?_⟩
    rw [List.getElem?_take_of_lt (by omega), List.getElem?_drop, show f + (i - f) = i by omega]
    exact List.getElem?_eq_getElem hi)
  rw [ownsS_nat, List.getElem?_eq_getElem hi]
  exact this
theorem besideS_fine {l : List Sd} {f c : Nat} {b : Int} (h : ownS l f c b = true) (hfc : f + c ≤ l.length) : besideS l f b (c + 2) = true := by
  by_cases hc : c = 0
  · subst hc
    rw [own0 l f b (by omega), Bool.or_eq_true] at h
    rcases h with h | h
    · exact besideS_of (j := 0) (by omega) h
    · exact besideS_of (j := 1) (by omega) (by rw [show ((f + 1 : Nat) : Int) - 1 = f by omega]; exact h)
  · exact besideS_of (j := 1) (by omega) (by rw [show ((f + 1 : Nat) : Int) - 1 = f by omega]; exact own_word h hfc f (by omega) (by omega))
set_option maxHeartbeats 8000000 in
theorem g5 {nums names nots e1 e2 e3 sw se l we rq qe} (hx : AskIn nums names nots e1 e2 e3 sw se l we rq qe) (o w : Int) :
    GG 5 [(true, [.row 2 e1, .row 1 e2, .row 1 e3]), (false, [.row 3 se]), (true, [.row 2 we, .int .i64 o, .int .i64 w]), (false, [.row 5 qe])] (.one (false, [.bool true])) := by
  have h30 := g30 hx o w
  have h17 := g17
  cases c1 : readyB nums names nots sw l o w rq
  · rw [c1] at h30
    clear hx
    refine start c5 rfl ?_
    intro r' hr G hG hGW lt le eq add sub mul quo rem conv strEq strLt strCat strLen strAt strCut bytes ofBytes len nth cut fits app rep setEl look upd ne strNe H
    (try cbv)
    repeat' (first | ((refine callB (hG _ _ _ h30) ?_; intro b hb; subst hb); (try cbv)) | ((refine callB (hG _ _ _ h17) ?_; intro b hb; subst hb); (try cbv)) | fail)
    rw [hr]
  obtain ⟨t1, t2, t3⟩ := readyT c1
  obtain ⟨ht, hsw⟩ := thinT t1
  obtain ⟨f1, f2, f3, f4⟩ := few_small t2
  obtain ⟨d1, d2, d3⟩ := decE_ok t3
  obtain ⟨r1, r2, r3, r4, r5⟩ := repE_nums d2
  rw [c1] at h30
  have h31 := g31 l we hx.he (by omega) o w
  have h19 := g19T hx.lex ht
  have h20 := g20 sw se hx.hse (by omega)
  have h32 := g32 rq qe hx.hq (by omega) (fun q hq => by have := f3 q hq; omega)
  have h29 := g29 hx o w
  rw [decideR, if_pos t3] at h29
  have hwl := map_len hx.he
  have hql := map_len hx.hq
  have herr : (errsS nums names nots sw l o w rq).length = rq.length := decS_len _ _
  obtain ⟨S, hS⟩ : ∃ S, S = (errsS nums names nots sw l o w rq).map fun e => [D.int .i64 e] := ⟨_, rfl⟩
  rw [← hS] at h29
  have hSl : S.length = rq.length := by rw [hS, List.length_map, herr]
  have hSn : ∀ k q, rq[k]? = some q → ∃ e : Int, S[k]? = some [D.int .i64 e] ∧ (e = 0 → ∃ f c, Fine l o w q f c) := fun k q hk => by
    obtain ⟨e, h1, h2⟩ := errs_each (lexP nums names nots) sw l o w rq k q hk
    refine ⟨e, ?_, fun h0 => ?_⟩
    · rw [hS, List.getElem?_map, errsS, refL, h1]; rfl
    · rcases h2 with ⟨h2, _⟩ | ⟨h2, _⟩
      · obtain ⟨f, c, h3, _⟩ := fine_of d2 (hx.hqs q (List.mem_of_getElem? hk)) (by rw [← h2]; exact h0)
        exact ⟨f, c, h3⟩
      · rw [h2] at h0; cases h0
  have hqn : ∀ k q, rq[k]? = some q → qe[k]? = some (rqD q) := fun k q hk => by rw [show qe = rq.map rqD from hx.hq, List.getElem?_map, hk]; rfl
  have hwn : ∀ i : Nat, ∀ x, l[i]? = some x → we[i]? = some [.str x.t, .int .i64 x.sp] := fun i x h => by rw [show we = l.map _ from hx.he, List.getElem?_map, h]; rfl
  clear hx hS herr t1 t2 t3 d1 ht f3 f4 hsw
  refine start c5 rfl ?_
  intro r' hr G hG hGW lt le eq add sub mul quo rem conv strEq strLt strCat strLen strAt strCut bytes ofBytes len nth cut fits app rep setEl look upd ne strNe H
  have n0 : ne 0 0 = false := by rw [H.ne]; rfl
  have nl : ne (len S) (len qe) = false := by rw [H.ne, H.len, H.len, hSl, hql]; simp
  (try cbv)
  repeat' (first | ((refine callB (hG _ _ _ h30) ?_; intro b hb; subst hb); (try cbv)) | ((refine call0 (hG _ _ _ h31) ?_); (try cbv)) | ((refine call0 (hG _ _ _ h19) ?_); (try cbv)) | ((refine call0 (hG _ _ _ h20) ?_); (try cbv)) | ((refine call0 (hG _ _ _ h32) ?_); (try cbv)) | ((refine call0 (hG _ _ _ h29) ?_); (try cbv)) | (rw [n0]; (try cbv)) | (rw [nl]; (try cbv)) | fail)
  clear h30 h31 h19 h20 h32 h29 c1 n0 nl
  refine loopK ?_
  intro K hK
  obtain ⟨N, hN⟩ : ∃ N, N = rq.length := ⟨_, rfl⟩
  obtain ⟨P, hP⟩ : ∃ P : Nat → Prop, ∀ k, P k = (True) := ⟨_, fun _ => rfl⟩
  refine loopU N (fun k => [(3, .v false [.d (.row 5 qe)]), (6, .v false [.loc 1 0]), (9, .v false [.d (.row 1 S)]), (11, .v false [.d (.int .i64 (Int.ofNat k))])]) [(0, .blk [.d (.row 2 e1), .d (.row 1 e2), .d (.row 1 e3)]), (1, .blk [.d (.row 2 we), .d (.int .i64 o), .d (.int .i64 w)])] P ⟨rfl, rfl⟩ ?_ ?_
  · rw [hP]; trivial
  intro k hk _
  rw [hN] at hk
  by_cases hkl : k < rq.length
  rotate_left
  · have g1 : lt (Int.ofNat k) (len S) = false := by rw [H.lt, H.len, hSl]; exact decide_eq_false (fun h => hkl (Int.ofNat_lt.1 h))
    (try cbv)
    repeat' (first | (rw [g1]; (try cbv)) | (rw [hK]; (try cbv)) | ((refine callB (hG _ _ _ h17) ?_; intro b hb; subst hb); (try cbv)) | fail)
    rw [hr]
  have g1 : lt (Int.ofNat k) (len S) = true := by rw [H.lt, H.len, hSl]; exact decide_eq_true (Int.ofNat_lt.2 hkl)
  have g3 := H.inc hkl (show rq.length ≤ maxLen by simp only [maxLen]; omega)
  obtain ⟨q, hq⟩ : ∃ q, rq[k]? = some q := ⟨_, List.getElem?_eq_getElem hkl⟩
  obtain ⟨e, he, hfine⟩ := hSn k q hq
  have g2 : nth S (Int.ofNat k) = some [.int .i64 e] := by rw [H.nth, if_pos (show (0 : Int) ≤ Int.ofNat k from Int.natCast_nonneg _)]; exact he
  have g4 : nth qe (Int.ofNat k) = some (rqD q) := by rw [H.nth, if_pos (show (0 : Int) ≤ Int.ofNat k from Int.natCast_nonneg _)]; exact hqn k q hq
  obtain ⟨qb, qm, qf, qc, qp⟩ := q
  simp only [rqD, putD] at g4
  generalize (qp.map fun s => [D.str s]) = pe at g4
  cases e0 : ne e 0
  rotate_left
  · (try cbv)
    repeat' (first | (rw [g1]; (try cbv)) | (rw [g4]; (try cbv)) | (rw [g2]; (try cbv)) | (rw [e0]; (try cbv)) | fail)
    exact ⟨by rw [hN]; exact hkl, by rw [hP]; trivial, by rw [g3], trivial⟩
  have hez : e = 0 := by rw [H.ne] at e0; simpa using e0
  obtain ⟨f, c, hF⟩ := hfine hez
  obtain ⟨k1, k2, k3, k4, k5, k6, k7, k8, k9⟩ := hF
  dsimp only at k1 k2 k7 k8 k9
  subst k1 k2
  have p1 : lt (f : Int) 0 = false := by rw [H.lt]; exact decide_eq_false (by omega)
  have p2 : lt (c : Int) 0 = false := by rw [H.lt]; exact decide_eq_false (by omega)
  have p3 : lt 8 (c : Int) = false := by rw [H.lt]; exact decide_eq_false (by omega)
  have hadd : add .i64 (f : Int) (c : Int) = ((f + c : Nat) : Int) := by rw [H.add, wrap64 (by omega) (by omega)]; rfl
  have p4 : lt (len we) ((f + c : Nat) : Int) = false := by rw [H.lt, H.len, hwl]; exact decide_eq_false (by omega)
  have p5 : lt qm o = false := by rw [H.lt]; exact decide_eq_false (by omega)
  have p6 : lt w (sub .i64 qm o) = false := by rw [H.lt, H.sub, wrap64 (by omega) (by omega)]; exact decide_eq_false (by omega)
  obtain ⟨FF, hFF⟩ : ∃ F : Nat → Int, ∀ k, F k = ((f + k : Nat) : Int) - 1 := ⟨_, fun _ => rfl⟩
  obtain ⟨BB, hBB⟩ : ∃ B : Nat → Bool, ∀ k, B k = besideS l f qb k := ⟨_, fun _ => rfl⟩
  have hB0 : BB 0 = false := hBB 0
  have hBE : BB (c + 2) = true := by rw [hBB]; exact besideS_fine k7 k3
  have hBs : ∀ k, BB (k + 1) = (BB k || ownsS l (FF k) qb) := fun k => by rw [hBB, hBB, hFF, besideS]
  have q0 : sub .i64 (f : Int) 1 = FF 0 := by rw [H.sub, hFF, wrap64 (by omega) (by omega)]; rfl
  have q1 : ∀ j, j ≤ c + 1 → add .i64 (FF j) 1 = FF (j + 1) := fun j hj => by rw [H.add, hFF, hFF, wrap64 (by omega) (by omega)]; omega
  have q2 : ∀ j, le (FF j) ((f + c : Nat) : Int) = decide (j < c + 2) := fun j => by rw [H.le, hFF, Bool.eq_iff_iff, decide_eq_true_eq, decide_eq_true_eq]; omega
  have q3 : sub .i64 (len we) 1 = (l.length : Int) - 1 := by rw [H.sub, H.len, hwl, wrap64 (by omega) (by omega)]
  have q4 : sub .i64 ((f + c : Nat) : Int) 1 = ((f + c : Nat) : Int) - 1 := by rw [H.sub, wrap64 (by omega) (by omega)]
  have q5 : ∀ j, (∃ t sp, nth we (FF j) = some [.str t, .int .i64 sp] ∧ eq sp qb = ownsS l (FF j) qb ∧ inR (FF j) 0 ((l.length : Int) - 1) = true) ∨ (inR (FF j) 0 ((l.length : Int) - 1) = false ∧ ownsS l (FF j) qb = false) := fun j => by
    cases hi : inR (FF j) 0 ((l.length : Int) - 1)
    · refine .inr ⟨rfl, ?_⟩
      rw [inR, Bool.and_eq_false_iff, decide_eq_false_iff_not, decide_eq_false_iff_not] at hi
      by_cases h0 : 0 ≤ FF j
      · obtain ⟨m, hm⟩ : ∃ m : Nat, FF j = m := ⟨(FF j).toNat, by omega⟩
        rw [hm, ownsS_nat, List.getElem?_eq_none (by omega)]
        rfl
      · rw [ownsS, decide_eq_false h0, Bool.false_and]
    · rw [inR, Bool.and_eq_true, decide_eq_true_eq, decide_eq_true_eq] at hi
      obtain ⟨m, hm⟩ : ∃ m : Nat, FF j = m := ⟨(FF j).toNat, by omega⟩
      have hml : m < l.length := by omega
      refine .inl ⟨l[m].t, l[m].sp, ?_, ?_, rfl⟩
      · rw [hm, H.nth, if_pos (Int.natCast_nonneg _), Int.toNat_natCast]
        exact hwn m _ (List.getElem?_eq_getElem hml)
      · rw [hm, ownsS_nat, List.getElem?_eq_getElem hml, H.eq]
        rfl
  have q6 : ∀ j, inR (FF j) (f : Int) (((f + c : Nat) : Int) - 1) = true → ownsS l (FF j) qb = true := fun j h => by
    rw [inR, Bool.and_eq_true, decide_eq_true_eq, decide_eq_true_eq] at h
    obtain ⟨m, hm⟩ : ∃ m : Nat, FF j = m := ⟨(FF j).toNat, by omega⟩
    rw [hm]
    exact own_word k7 k3 m (by omega) (by omega)
  have hg28 : ∀ n lo hi, GG 28 [(false, [.int .i64 n]), (false, [.int .i64 lo]), (false, [.int .i64 hi])] (.one (false, [.bool (inR n lo hi)])) := fun n lo hi => g28 n lo hi
  clear k3 k4 k5 k6 k7 k8 k9 hFF hBB hfine
  generalize ((f + c : Nat) : Int) = fc at *
  generalize ((l.length : Int) - 1) = ll at *
  generalize fc - 1 = fd at *
  generalize (f : Int) = ff at *
  generalize (c : Int) = cc at *
  generalize Int.ofNat k = ik at g1 g2 g3 g4 ⊢
  (try cbv)
  repeat' (first | (rw [g1]; (try cbv)) | (rw [g4]; (try cbv)) | (rw [g2]; (try cbv)) | (rw [e0]; (try cbv)) | (rw [p1]; (try cbv)) | (rw [p2]; (try cbv)) | (rw [p3]; (try cbv)) | (rw [hadd]; (try cbv)) | (rw [p4]; (try cbv)) | (rw [p5]; (try cbv)) | (rw [p6]; (try cbv)) | (rw [q0]; (try cbv)) | fail)
  refine loopK ?_
  intro K2 hK2
  obtain ⟨N2, hN2⟩ : ∃ N, N = (c + 2) := ⟨_, rfl⟩
  obtain ⟨P2, hP2⟩ : ∃ P : Nat → Prop, ∀ k, P k = (True) := ⟨_, fun _ => rfl⟩
  refine loopV N2 (fun k => [(3, .v false [.d (.row 5 qe)]), (6, .v false [.loc 1 0]), (9, .v false [.d (.row 1 S)]), (11, .v false [.d (.int .i64 ik)]), (12, .v false [.loc 2 0]), (13, .v false [.d (.bool (BB k))]), (14, .v false [.d (.int .i64 (FF k))])]) (fun k => [(0, .blk [.d (.row 2 e1), .d (.row 1 e2), .d (.row 1 e3)]), (1, .blk [.d (.row 2 we), .d (.int .i64 o), .d (.int .i64 w)]), (2, .blk [.d (.int .i64 qb), .d (.int .i64 qm), .d (.int .i64 ff), .d (.int .i64 cc), .d (.row 1 pe)]), (3, .arr 9 1 [])]) P2 ?_ ?_ ?_
  · rw [hB0]; exact ⟨rfl, rfl⟩
  · rw [hP2]; trivial
  intro j hj _
  rw [hN2] at hj
  by_cases hjc : j < c + 2
  · have m1 : le (FF j) fc = true := by rw [q2]; exact decide_eq_true hjc
    have m2 := q1 j (by omega)
    have m3 := hBs j
    have m4 := q6 j
    have c1 := hg28 (FF j) 0 ll
    have c2 := hg28 (FF j) ff fd
    rcases q5 j with ⟨t, sp, m5, m6, m7⟩ | ⟨m7, m8⟩
    · rw [m7] at c1
      generalize ownsS l (FF j) qb = ow at m3 m4 m6
      generalize inR (FF j) ff fd = i2 at c2 m4
      cases i2
      · cases hb : BB j
        · rw [hb] at m3
          cases ow
          · (try cbv)
            repeat' (first | (rw [hadd]; (try cbv)) | (rw [m1]; (try cbv)) | (rw [q3]; (try cbv)) | ((refine callB (hG _ _ _ c1) ?_; intro b hb; subst hb); (try cbv)) | (rw [m5]; (try cbv)) | (rw [m6]; (try cbv)) | (rw [q4]; (try cbv)) | ((refine callB (hG _ _ _ c2) ?_; intro b hb; subst hb); (try cbv)) | fail)
            exact ⟨by rw [hN2]; exact hjc, by rw [hP2]; trivial, by rw [m2, m3]; rfl, trivial⟩
          · (try cbv)
            repeat' (first | (rw [hadd]; (try cbv)) | (rw [m1]; (try cbv)) | (rw [q3]; (try cbv)) | ((refine callB (hG _ _ _ c1) ?_; intro b hb; subst hb); (try cbv)) | (rw [m5]; (try cbv)) | (rw [m6]; (try cbv)) | (rw [q4]; (try cbv)) | ((refine callB (hG _ _ _ c2) ?_; intro b hb; subst hb); (try cbv)) | fail)
            exact ⟨by rw [hN2]; exact hjc, by rw [hP2]; trivial, by rw [m2, m3]; rfl, trivial⟩
        · rw [hb] at m3
          cases ow
          all_goals
            (try cbv)
            repeat' (first | (rw [hadd]; (try cbv)) | (rw [m1]; (try cbv)) | (rw [q3]; (try cbv)) | ((refine callB (hG _ _ _ c1) ?_; intro b hb; subst hb); (try cbv)) | (rw [m5]; (try cbv)) | (rw [m6]; (try cbv)) | (rw [q4]; (try cbv)) | ((refine callB (hG _ _ _ c2) ?_; intro b hb; subst hb); (try cbv)) | fail)
            exact ⟨by rw [hN2]; exact hjc, by rw [hP2]; trivial, by rw [m2, m3]; rfl, trivial⟩
      · have := m4 rfl
        subst this
        cases hb : BB j
        all_goals
          rw [hb] at m3
          (try cbv)
          repeat' (first | (rw [hadd]; (try cbv)) | (rw [m1]; (try cbv)) | (rw [q3]; (try cbv)) | ((refine callB (hG _ _ _ c1) ?_; intro b hb; subst hb); (try cbv)) | (rw [m5]; (try cbv)) | (rw [m6]; (try cbv)) | (rw [q4]; (try cbv)) | ((refine callB (hG _ _ _ c2) ?_; intro b hb; subst hb); (try cbv)) | fail)
          exact ⟨by rw [hN2]; exact hjc, by rw [hP2]; trivial, by rw [m2, m3]; rfl, trivial⟩
    · rw [m7] at c1
      rw [m8] at m3
      have i2 : inR (FF j) ff fd = false := by
        cases h : inR (FF j) ff fd
        · rfl
        · rw [m4 h] at m8; cases m8
      rw [i2] at c2
      cases hb : BB j
      all_goals
        rw [hb] at m3
        (try cbv)
        repeat' (first | (rw [hadd]; (try cbv)) | (rw [m1]; (try cbv)) | (rw [q3]; (try cbv)) | ((refine callB (hG _ _ _ c1) ?_; intro b hb; subst hb); (try cbv)) | (rw [q4]; (try cbv)) | ((refine callB (hG _ _ _ c2) ?_; intro b hb; subst hb); (try cbv)) | fail)
        exact ⟨by rw [hN2]; exact hjc, by rw [hP2]; trivial, by rw [m2, m3]; rfl, trivial⟩
  · have m1 : le (FF j) fc = false := by rw [q2]; exact decide_eq_false hjc
    have hjj : j = c + 2 := by omega
    subst hjj
    rw [hBE]
    (try cbv)
    repeat' (first | (rw [hadd]; (try cbv)) | (rw [m1]; (try cbv)) | (rw [hK2]; (try cbv)) | fail)
    exact ⟨by rw [hN]; exact hkl, by rw [hP]; trivial, by rw [g3], trivial⟩
theorem law5 (xs : List DV) (h : All2 (Typed Tryz.prog 6) [26, 27, 68, 69] xs) : GG 5 xs (.one (false, [.bool true])) := by
  obtain ⟨nums, names, nots, e1, e2, e3, sw, se, l, we, o, w, rq, qe, rfl, hx, _⟩ := hasAsk h
  exact g5 hx o w
end Go.Vi
