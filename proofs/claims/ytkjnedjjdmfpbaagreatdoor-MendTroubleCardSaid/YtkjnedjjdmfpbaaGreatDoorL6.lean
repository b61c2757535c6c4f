/-
  MendAlone returns true at all typed arguments.
-/
import Derived.Test.YtkjnedjjdmfpbaaGreatDoorA5
import Derived.Test.YtkjnedjjdmfpbaaGreatDoorProg
import Derived.KernelRfl
import Derived.Test.YtkjnedjjdmfpbaaGreatDoorC1
import Derived.Test.YtkjnedjjdmfpbaaGreatDoorC2
import Derived.Test.YtkjnedjjdmfpbaaGreatDoorC3
import Derived.Test.YtkjnedjjdmfpbaaGreatDoorL5
set_option linter.unusedVariables false
set_option linter.unusedSimpArgs false
set_option linter.unusedSectionVars false
namespace Go.Vi
open Go.Proofs
set_option maxRecDepth 100000
/-- palantype/palantypelaw04.MendAlone -/
def v6 : Code :=
  (.seq (.region [⟨some 5, .box (.t 0), none⟩, ⟨some 7, .box (.t 2), none⟩, ⟨some 10, .mv (.con (.bool false)), none⟩] [1, 3, 4, 5, 7])
  (.seq (.seq (.region [⟨some 17, .load true 3 (.t 5), none⟩, ⟨some 18, .mv (.t 1), none⟩, ⟨some 19, .load true 3 (.t 7), none⟩, ⟨some 20, .mv (.t 3), none⟩, ⟨some 21, .call 1 30 [.t 17, .t 18, .t 19, .t 20], none⟩, ⟨some 22, .not (.t 21), none⟩, ⟨some 23, .mv (.t 22), none⟩, ⟨some 24, .mv (.t 3), some (23, false)⟩, ⟨some 25, .len (.t 24), some (23, false)⟩, ⟨some 26, .cmp .eql (.t 25) (.con (.int .i64 0)), some (23, false)⟩, ⟨some 27, .pick (.t 23) (.con (.bool true)) (.t 26), none⟩] [1, 3, 4, 5, 7, 27])
  (.cond (.t 27) (.seq (.region [⟨some 28, .call 1 17 [], none⟩, ⟨some 10, .mv (.t 28), none⟩] [10])
   .ret) .skip))
  (.seq (.region [⟨some 29, .mv (.t 4), none⟩, ⟨some 30, .conv .i64 (.t 29), none⟩, ⟨some 31, .mv (.t 3), none⟩, ⟨some 32, .len (.t 31), none⟩, ⟨some 33, .arith .rem .i64 (.t 30) (.t 32), none⟩, ⟨some 11, .mv (.t 33), none⟩] [1, 3, 5, 7, 11])
  (.seq (.region [⟨some 35, .load true 3 (.t 5), none⟩, ⟨some 36, .call 0 19 [.t 35], none⟩, ⟨some 37, .mv (.t 1), none⟩, ⟨some 38, .call 0 20 [.t 37], none⟩, ⟨some 39, .load true 3 (.t 7), none⟩, ⟨some 40, .call 0 31 [.t 39], none⟩, ⟨some 41, .mv (.t 3), none⟩, ⟨some 42, .call 0 32 [.t 41], none⟩, ⟨some 43, .call 0 29 [.t 36, .t 38, .t 40, .t 42], none⟩, ⟨some 34, .mv (.t 43), none⟩, ⟨some 44, .extract (.t 34) 0, none⟩, ⟨some 45, .extract (.t 34) 1, none⟩, ⟨some 12, .mv (.t 44), none⟩, ⟨some 13, .mv (.t 45), none⟩] [1, 3, 5, 7, 11, 12, 13])
  (.seq (.region [⟨some 47, .load true 3 (.t 5), none⟩, ⟨some 48, .call 0 19 [.t 47], none⟩, ⟨some 49, .mv (.t 1), none⟩, ⟨some 50, .call 0 20 [.t 49], none⟩, ⟨some 51, .load true 3 (.t 7), none⟩, ⟨some 52, .call 0 31 [.t 51], none⟩, ⟨some 53, .mv (.t 3), none⟩, ⟨some 54, .mv (.t 11), none⟩, ⟨some 55, .mv (.t 11), none⟩, ⟨some 56, .arith .add .i64 (.t 55) (.con (.int .i64 1)), none⟩, ⟨some 57, .cut 5 (.t 53) (some (.t 54)) (some (.t 56)), none⟩, ⟨some 58, .call 0 32 [.t 57], none⟩, ⟨some 59, .call 0 29 [.t 48, .t 50, .t 52, .t 58], none⟩, ⟨some 46, .mv (.t 59), none⟩, ⟨some 60, .extract (.t 46) 0, none⟩, ⟨some 61, .extract (.t 46) 1, none⟩, ⟨some 14, .mv (.t 60), none⟩, ⟨some 15, .mv (.t 61), none⟩] [3, 11, 12, 13, 14, 15])
  (.seq (.seq (.region [⟨some 62, .mv (.t 13), none⟩, ⟨some 63, .cmp .neq (.t 62) (.con (.int .i64 0)), none⟩, ⟨some 64, .mv (.t 63), none⟩, ⟨some 65, .mv (.t 15), some (64, false)⟩, ⟨some 66, .cmp .neq (.t 65) (.con (.int .i64 0)), some (64, false)⟩, ⟨some 67, .pick (.t 64) (.con (.bool true)) (.t 66), none⟩, ⟨some 68, .mv (.t 67), none⟩, ⟨some 69, .mv (.t 12), some (68, false)⟩, ⟨some 70, .len (.t 69), some (68, false)⟩, ⟨some 71, .mv (.t 3), some (68, false)⟩, ⟨some 72, .len (.t 71), some (68, false)⟩, ⟨some 73, .cmp .neq (.t 70) (.t 72), some (68, false)⟩, ⟨some 74, .pick (.t 68) (.con (.bool true)) (.t 73), none⟩, ⟨some 75, .mv (.t 74), none⟩, ⟨some 76, .mv (.t 14), some (75, false)⟩, ⟨some 77, .len (.t 76), some (75, false)⟩, ⟨some 78, .cmp .neq (.t 77) (.con (.int .i64 1)), some (75, false)⟩, ⟨some 79, .pick (.t 75) (.con (.bool true)) (.t 78), none⟩] [3, 11, 12, 14, 79])
  (.cond (.t 79) (.seq (.region [⟨some 10, .mv (.con (.bool false)), none⟩] [10])
   .ret) .skip))
  (.seq (.seq (.region [⟨some 80, .mv (.t 12), none⟩, ⟨some 81, .mv (.t 11), none⟩, ⟨some 82, .indexAddr 1 (.t 80) (.t 81), none⟩, ⟨some 83, .load false 1 (.t 82), none⟩, ⟨some 84, .cmp .neq (.t 83) (.con (.int .i64 6)), none⟩] [3, 11, 12, 14, 84])
  (.cond (.t 84) (.seq (.region [⟨some 85, .mv (.t 14), none⟩, ⟨some 86, .indexAddr 1 (.t 85) (.con (.int .i64 0)), none⟩, ⟨some 87, .load false 1 (.t 86), none⟩, ⟨some 88, .mv (.t 12), none⟩, ⟨some 89, .mv (.t 11), none⟩, ⟨some 90, .indexAddr 1 (.t 88) (.t 89), none⟩, ⟨some 91, .load false 1 (.t 90), none⟩, ⟨some 92, .cmp .eql (.t 87) (.t 91), none⟩, ⟨some 93, .mv (.t 92), none⟩, ⟨some 94, .call 1 17 [], some (93, true)⟩, ⟨some 95, .pick (.t 93) (.t 94) (.con (.bool false)), none⟩, ⟨some 10, .mv (.t 95), none⟩] [10])
   .ret) .skip))
  (.seq (.seq (.region [⟨some 16, .mv (.con (.int .i64 0)), none⟩] [3, 11, 12, 14, 16])
  (.block 0 (.loop [3, 11, 12, 14, 16] (.seq (.seq (.region [⟨some 96, .mv (.t 16), none⟩, ⟨some 97, .mv (.t 3), none⟩, ⟨some 98, .len (.t 97), none⟩, ⟨some 99, .cmp .lss (.t 96) (.t 98), none⟩] [3, 11, 12, 14, 16, 99])
    (.cond (.t 99) .skip (.exit 0)))
    (.seq (.block 1 (.seq (.region [⟨some 102, .mv (.t 16), none⟩, ⟨some 103, .mv (.t 11), none⟩, ⟨some 104, .cmp .neq (.t 102) (.t 103), none⟩, ⟨some 105, .mv (.t 104), none⟩, ⟨some 106, .mv (.t 12), some (105, true)⟩, ⟨some 107, .mv (.t 16), some (105, true)⟩, ⟨some 108, .indexAddr 1 (.t 106) (.t 107), some (105, true)⟩, ⟨some 109, .load false 1 (.t 108), some (105, true)⟩, ⟨some 110, .cmp .eql (.t 109) (.con (.int .i64 0)), some (105, true)⟩, ⟨some 111, .pick (.t 105) (.t 110) (.con (.bool false)), none⟩, ⟨some 112, .mv (.t 111), none⟩, ⟨some 113, .mv (.t 3), some (112, true)⟩, ⟨some 114, .mv (.t 16), some (112, true)⟩, ⟨some 115, .indexAddr 5 (.t 113) (.t 114), some (112, true)⟩, ⟨some 116, .load true 5 (.t 115), some (112, true)⟩, ⟨some 117, .mv (.t 3), some (112, true)⟩, ⟨some 118, .mv (.t 11), some (112, true)⟩, ⟨some 119, .indexAddr 5 (.t 117) (.t 118), some (112, true)⟩, ⟨some 120, .load true 5 (.t 119), some (112, true)⟩, ⟨some 121, .call 1 33 [.t 116, .t 120], some (112, true)⟩, ⟨some 122, .pick (.t 112) (.t 121) (.con (.bool false)), none⟩] [3, 11, 12, 14, 16, 122])
     (.cond (.t 122) (.seq (.region [⟨some 123, .mv (.t 14), none⟩, ⟨some 124, .indexAddr 1 (.t 123) (.con (.int .i64 0)), none⟩, ⟨some 125, .load false 1 (.t 124), none⟩, ⟨some 126, .cmp .eql (.t 125) (.con (.int .i64 0)), none⟩, ⟨some 127, .mv (.t 126), none⟩, ⟨some 128, .call 1 17 [], some (127, true)⟩, ⟨some 129, .pick (.t 127) (.t 128) (.con (.bool false)), none⟩, ⟨some 10, .mv (.t 129), none⟩] [10])
      .ret) .skip)))
    (.region [⟨some 100, .mv (.t 16), none⟩, ⟨some 101, .arith .add .i64 (.t 100) (.con (.int .i64 1)), none⟩, ⟨some 16, .mv (.t 101), none⟩] [3, 11, 12, 14, 16]))))))
  (.seq (.region [⟨some 10, .mv (.con (.bool false)), none⟩] [10])
  .ret)))))))))
def r6 : List Res := [.tmp 10]

theorem c6 : chkFn Tryz.prog 6 5 v6 r6 = true := by kernel_rfl
end Go.Vi
namespace Go.Vi
open Go.Proofs
set_option maxRecDepth 100000
set_option linter.unusedVariables false
set_option linter.unusedSimpArgs false
theorem refS_nil (L : List (ByteArray × Mrk)) (sw : List Swp) (l : List Sd) (o w : Int) (q : Rq) : refS L sw l o w [] q = aloneS L sw l o w q := by
  rw [refS_alone]
  split
  · rename_i h
    rw [h]
    rfl
  · rfl
theorem decE_one {nums names nots sw l o w n} (h : decE nums names nots sw l o w n = 0) : decE nums names nots sw l o w 1 = 0 := by
  obtain ⟨h1, h2, _⟩ := decE_ok h
  unfold decE
  rw [if_neg (by simpa using h1), if_neg (by simpa using h2)]
  rfl
/-- One request of those. -/
theorem AskIn.one {nums names nots e1 e2 e3 sw se l we rq qe} (hx : AskIn nums names nots e1 e2 e3 sw se l we rq qe) {q : Rq} (hq : q ∈ rq) : AskIn nums names nots e1 e2 e3 sw se l we [q] [rqD q] where
  lex := hx.lex
  hse := hx.hse
  hsl := hx.hsl
  he := hx.he
  hl := hx.hl
  hls := hx.hls
  hq := rfl
  hql := by simp [maxLen]
  hqs := fun p hp => by rw [List.mem_singleton] at hp; subst hp; exact hx.hqs _ hq
set_option maxHeartbeats 8000000 in
theorem g6 {nums names nots e1 e2 e3 sw se l we rq qe} (hx : AskIn nums names nots e1 e2 e3 sw se l we rq qe) (o w : Int) (m : Int) (hm0 : 0 ≤ m) (hm1 : m < 256) :
    GG 6 [(true, [.row 2 e1, .row 1 e2, .row 1 e3]), (false, [.row 3 se]), (true, [.row 2 we, .int .i64 o, .int .i64 w]), (false, [.row 5 qe]), (false, [.int .u8 m])] (.one (false, [.bool true])) := by
  have h30 := g30 hx o w
  have h17 := g17
  have hql := map_len hx.hq
  cases c1 : readyB nums names nots sw l o w rq
  · rw [c1] at h30
    clear hx
    refine start c6 rfl ?_
    intro r' hr G hG hGW lt le eq add sub mul quo rem conv strEq strLt strCat strLen strAt strCut bytes ofBytes len nth cut fits app rep setEl look upd ne strNe H
    (try cbv)
    repeat' (first | ((refine callB (hG _ _ _ h30) ?_; intro b hb; subst hb); (try cbv)) | ((refine callB (hG _ _ _ h17) ?_; intro b hb; subst hb); (try cbv)) | fail)
    rw [hr]
  rw [c1] at h30
  by_cases hn0 : rq.length = 0
  · clear hx
    refine start c6 rfl ?_
    intro r' hr G hG hGW lt le eq add sub mul quo rem conv strEq strLt strCat strLen strAt strCut bytes ofBytes len nth cut fits app rep setEl look upd ne strNe H
    have n0 : eq (len qe) 0 = true := by rw [H.eq, H.len, hql, hn0]; rfl
    (try cbv)
    repeat' (first | ((refine callB (hG _ _ _ h30) ?_; intro b hb; subst hb); (try cbv)) | (rw [n0]; (try cbv)) | ((refine callB (hG _ _ _ h17) ?_; intro b hb; subst hb); (try cbv)) | fail)
    rw [hr]
  obtain ⟨t1, t2, t3⟩ := readyT c1
  obtain ⟨ht, hsw⟩ := thinT t1
  obtain ⟨f1, f2, f3, f4⟩ := few_small t2
  obtain ⟨k, hk⟩ : ∃ k : Nat, k = m.toNat % rq.length := ⟨_, rfl⟩
  have hkn : k < rq.length := by rw [hk]; exact Nat.mod_lt _ (by omega)
  obtain ⟨q, hq⟩ : ∃ q, rq[k]? = some q := ⟨_, List.getElem?_eq_getElem hkn⟩
  have hqm : q ∈ rq := List.mem_of_getElem? hq
  have hx1 := hx.one hqm
  have h31 := g31 l we hx.he (by omega) o w
  have h19 := g19T hx.lex ht
  have h20 := g20 sw se hx.hse (by omega)
  have h32 := g32 rq qe hx.hq (by omega) (fun q hq => by have := f3 q hq; omega)
  have h32' := g32 [q] [rqD q] rfl (by simp) (fun p hp => by rw [List.mem_singleton] at hp; subst hp; have := f3 _ hqm; omega)
  have h29 := g29 hx o w
  have h29' := g29 hx1 o w
  rw [decideR, if_pos t3] at h29
  rw [decideR, if_pos (show decE nums names nots sw l o w [q].length = 0 from decE_one t3)] at h29'
  have herr1 : errsS nums names nots sw l o w [q] = [aloneS (lexP nums names nots) sw l o w q] := by rw [errsS, decS_one, refL, refS_nil]
  rw [herr1] at h29'
  have herr : (errsS nums names nots sw l o w rq).length = rq.length := decS_len _ _
  obtain ⟨S, hS⟩ : ∃ S, S = (errsS nums names nots sw l o w rq).map fun e => [D.int .i64 e] := ⟨_, rfl⟩
  rw [← hS] at h29
  have hSl : S.length = rq.length := by rw [hS, List.length_map, herr]
  obtain ⟨ee, hee⟩ : ∃ E : List Int, E = errsS nums names nots sw l o w rq := ⟨_, rfl⟩
  have hSn : ∀ j e, ee[j]? = some e → S[j]? = some [D.int .i64 e] := fun j e h => by rw [hS, ← hee, List.getElem?_map, h]; rfl
  obtain ⟨e, he, hcase⟩ := errs_each (lexP nums names nots) sw l o w rq k q hq
  rw [show (decS (refS (lexP nums names nots) sw l o w) rq).errs = ee by rw [hee]; rfl] at he hcase
  have hel : ee.length = rq.length := by rw [hee]; exact herr
  have hqn : ∀ j p, rq[j]? = some p → qe[j]? = some (rqD p) := fun j p h => by rw [show qe = rq.map rqD from hx.hq, List.getElem?_map, h]; rfl
  have h33 : ∀ a : Rq, GG 33 [(true, rqD a), (true, rqD q)] (.one (false, [.bool (meetS a.frm a.cut q.frm q.cut)])) := fun a => g33 _ _ _ _ _ _ _ _ _ _
  have hcut : prims.cut qe (some (k : Int)) (some ((k + 1 : Nat) : Int)) = some [rqD q] := by
    rw [cutN qe k (k + 1) (by omega) (by omega)]
    congr 1
    have h := hqn k q hq
    have hkl : k < qe.length := by omega
    rw [List.drop_eq_getElem_cons hkl, show k + 1 - k = 1 by omega, List.take_succ_cons, List.take_zero, (List.getElem?_eq_some_iff.1 h).2]
  have hrem : (m.tmod (rq.length : Int)) = (k : Int) := by
    obtain ⟨a, rfl⟩ : ∃ a : Nat, m = a := ⟨m.toNat, by omega⟩
    rw [hk, Int.toNat_natCast]
    rfl
  generalize aloneS (lexP nums names nots) sw l o w q = al at h29' hcase
  clear hx hx1 hS herr herr1 hee t1 t2 t3 ht f1 f3 f4 hsw hk
  refine start c6 rfl ?_
  intro r' hr G hG hGW lt le eq add sub mul quo rem conv strEq strLt strCat strLen strAt strCut bytes ofBytes len nth cut fits app rep setEl look upd ne strNe H
  have n0 : eq (len qe) 0 = false := by rw [H.eq, H.len, hql]; exact decide_eq_false (by omega)
  have g1 : conv .i64 m = m := by rw [H.conv, wrap64 (by omega) (by omega)]
  have g2 : rem .i64 m (len qe) = some (k : Int) := by rw [H.rem, H.len, hql, if_neg (by omega), hrem]
  have g3 : add .i64 (k : Int) 1 = ((k + 1 : Nat) : Int) := by rw [H.add, wrap64 (by omega) (by omega)]; rfl
  rw [← H.cut] at hcut
  have n1 : ne 0 0 = false := by rw [H.ne]; rfl
  have nl : ne (len S) (len qe) = false := by rw [H.ne, H.len, H.len, hSl, hql]; simp
  have nl1 : ne (len [[.int .i64 al]]) 1 = false := by rw [H.ne, H.len]; rfl
  have g4 : nth S (k : Int) = some [.int .i64 e] := by rw [H.nth, if_pos (Int.natCast_nonneg _), Int.toNat_natCast]; exact hSn k e he
  have g5 : nth [[.int .i64 al]] 0 = some [.int .i64 al] := by rw [H.nth]; rfl
  have g6 : nth qe (k : Int) = some (rqD q) := by rw [H.nth, if_pos (Int.natCast_nonneg _), Int.toNat_natCast]; exact hqn k q hq
  generalize ((k + 1 : Nat) : Int) = k1 at g3 hcut
  obtain ⟨kk, hkk⟩ : ∃ kk, kk = (k : Int) := ⟨_, rfl⟩
  rw [← hkk] at g2 g3 g4 g6 hcut
  rcases hcase with ⟨rfl, h6⟩ | ⟨rfl, h6, j, p, hjk, hpj, hej, hmeet⟩
  · have e6 : ne e 6 = true := by rw [H.ne]; simpa using h6
    have e7 : eq e e = true := by rw [H.eq]; simp
    obtain ⟨qb, qm, qf, qc, qp⟩ := q
    simp only [rqD, putD] at g6 hcut h32' h29'
    generalize (qp.map fun s => [D.str s]) = pe at g6 hcut h32' h29'
    clear h33
    (try cbv)
    repeat' (first | ((refine callB (hG _ _ _ h30) ?_; intro b hb; subst hb); (try cbv)) | (rw [n0]; (try cbv)) | (rw [g1]; (try cbv)) | (rw [g2]; (try cbv)) | (rw [g3]; (try cbv)) | (rw [hcut]; (try cbv)) | ((refine call0 (hG _ _ _ h19) ?_); (try cbv)) | ((refine call0 (hG _ _ _ h20) ?_); (try cbv)) | ((refine call0 (hG _ _ _ h31) ?_); (try cbv)) | ((refine call0 (hG _ _ _ h32) ?_); (try cbv)) | ((refine call0 (hG _ _ _ h32') ?_); (try cbv)) | ((refine call0 (hG _ _ _ h29) ?_); (try cbv)) | ((refine call0 (hG _ _ _ h29') ?_); (try cbv)) | (rw [n1]; (try cbv)) | (rw [nl]; (try cbv)) | (rw [nl1]; (try cbv)) | (rw [g4]; (try cbv)) | (rw [e6]; (try cbv)) | (rw [g5]; (try cbv)) | (rw [e7]; (try cbv)) | ((refine callB (hG _ _ _ h17) ?_; intro b hb; subst hb); (try cbv)) | fail)
    rw [hr]
  · subst h6
    have e6 : ne 6 6 = false := by rw [H.ne]; rfl
    have e0 : eq 0 0 = true := by rw [H.eq]; rfl
    obtain ⟨qb, qm, qf, qc, qp⟩ := q
    dsimp only at hmeet h33
    simp only [rqD, putD] at g6 hcut h32' h29' h33
    generalize (qp.map fun s => [D.str s]) = pe at g6 hcut h32' h29' h33
    (try cbv)
    repeat' (first | ((refine callB (hG _ _ _ h30) ?_; intro b hb; subst hb); (try cbv)) | (rw [n0]; (try cbv)) | (rw [g1]; (try cbv)) | (rw [g2]; (try cbv)) | (rw [g3]; (try cbv)) | (rw [hcut]; (try cbv)) | ((refine call0 (hG _ _ _ h19) ?_); (try cbv)) | ((refine call0 (hG _ _ _ h20) ?_); (try cbv)) | ((refine call0 (hG _ _ _ h31) ?_); (try cbv)) | ((refine call0 (hG _ _ _ h32) ?_); (try cbv)) | ((refine call0 (hG _ _ _ h32') ?_); (try cbv)) | ((refine call0 (hG _ _ _ h29) ?_); (try cbv)) | ((refine call0 (hG _ _ _ h29') ?_); (try cbv)) | (rw [n1]; (try cbv)) | (rw [nl]; (try cbv)) | (rw [nl1]; (try cbv)) | (rw [g4]; (try cbv)) | (rw [e6]; (try cbv)) | fail)
    obtain ⟨A1, hA1⟩ : ∃ A, A = [[D.int IntKind.i64 0]] := ⟨_, rfl⟩
    rw [← hA1]
    rw [← hA1] at g5
    refine loopK ?_
    intro K hK
    obtain ⟨N, hN⟩ : ∃ N, N = rq.length := ⟨_, rfl⟩
    obtain ⟨P, hP⟩ : ∃ P : Nat → Prop, ∀ k, P k = (k ≤ j) := ⟨_, fun _ => rfl⟩
    refine loopU N (fun k => [(3, .v false [.d (.row 5 qe)]), (11, .v false [.d (.int .i64 kk)]), (12, .v false [.d (.row 1 S)]), (14, .v false [.d (.row 1 A1)]), (16, .v false [.d (.int .i64 (Int.ofNat k))])]) [(0, .blk [.d (.row 2 e1), .d (.row 1 e2), .d (.row 1 e3)]), (1, .blk [.d (.row 2 we), .d (.int .i64 o), .d (.int .i64 w)])] P ⟨rfl, rfl⟩ ?_ ?_
    · rw [hP]; exact Nat.zero_le _
    intro i hi hij
    rw [hN] at hi
    rw [hP] at hij
    have hjn : j < rq.length := (List.getElem?_eq_some_iff.1 hpj).1
    have hin : i < rq.length := by omega
    have i1 : lt (Int.ofNat i) (len qe) = true := by rw [H.lt, H.len, hql]; exact decide_eq_true (Int.ofNat_lt.2 hin)
    have i3 := H.inc hin (show rq.length ≤ maxLen by simp only [maxLen]; omega)
    obtain ⟨a, ha⟩ : ∃ a, rq[i]? = some a := ⟨_, List.getElem?_eq_getElem hin⟩
    obtain ⟨ei, hei⟩ : ∃ ei, ee[i]? = some ei := ⟨_, List.getElem?_eq_getElem (by omega)⟩
    have i4 : nth S (Int.ofNat i) = some [.int .i64 ei] := by rw [H.nth, if_pos (show (0 : Int) ≤ Int.ofNat i from Int.natCast_nonneg _)]; exact hSn i ei hei
    have i5 : nth qe (Int.ofNat i) = some (rqD a) := by rw [H.nth, if_pos (show (0 : Int) ≤ Int.ofNat i from Int.natCast_nonneg _)]; exact hqn i a ha
    have i6 : ne (Int.ofNat i) kk = decide (i ≠ k) := by
      rw [H.ne, hkk, Bool.eq_iff_iff, decide_eq_true_eq, decide_eq_true_eq]
      constructor
      · rintro h rfl; exact h rfl
      · intro h h2; exact h (Int.ofNat.inj h2)
    have i7 := h33 a
    have hstop : i = j → i ≠ k ∧ ei = 0 ∧ meetS a.frm a.cut qf qc = true := by
      rintro rfl
      rw [hpj] at ha
      cases ha
      rw [hej] at hei
      cases hei
      exact ⟨hjk, rfl, hmeet⟩
    obtain ⟨ab, am, af, ac, ap⟩ := a
    dsimp only at hstop i7
    simp only [rqD, putD] at i5 i7
    generalize (ap.map fun s => [D.str s]) = apd at i5 i7
    generalize meetS af ac qf qc = mt at i7 hstop
    have hnext : i ≠ j → i < rq.length ∧ i + 1 ≤ j := fun h => ⟨hin, by omega⟩
    by_cases hik : i = k
    · have i6 : ne (Int.ofNat i) kk = false := by rw [i6]; simpa using hik
      have hnj : i ≠ j := fun h => (hstop h).1 hik
      (try cbv)
      repeat' (first | (rw [i1]; (try cbv)) | (rw [i6]; (try cbv)) | fail)
      exact ⟨by rw [hN]; exact hin, by rw [hP]; exact (hnext hnj).2, by rw [i3], trivial⟩
    · have i6 : ne (Int.ofNat i) kk = true := by rw [i6]; simpa using hik
      cases i8 : eq ei 0
      · have hnj : i ≠ j := fun h => by
          have := (hstop h).2.1
          rw [H.eq, this] at i8
          cases i8
        (try cbv)
        repeat' (first | (rw [i1]; (try cbv)) | (rw [i6]; (try cbv)) | (rw [i4]; (try cbv)) | (rw [i8]; (try cbv)) | fail)
        exact ⟨by rw [hN]; exact hin, by rw [hP]; exact (hnext hnj).2, by rw [i3], trivial⟩
      · cases mt
        · have hnj : i ≠ j := fun h => by
            have := (hstop h).2.2
            cases this
          (try cbv)
          repeat' (first | (rw [i1]; (try cbv)) | (rw [i6]; (try cbv)) | (rw [i4]; (try cbv)) | (rw [i8]; (try cbv)) | (rw [i5]; (try cbv)) | (rw [g6]; (try cbv)) | ((refine callB (hG _ _ _ i7) ?_; intro b hb; subst hb); (try cbv)) | fail)
          exact ⟨by rw [hN]; exact hin, by rw [hP]; exact (hnext hnj).2, by rw [i3], trivial⟩
        · (try cbv)
          repeat' (first | (rw [i1]; (try cbv)) | (rw [i6]; (try cbv)) | (rw [i4]; (try cbv)) | (rw [i8]; (try cbv)) | (rw [i5]; (try cbv)) | (rw [g6]; (try cbv)) | ((refine callB (hG _ _ _ i7) ?_; intro b hb; subst hb); (try cbv)) | (rw [g5]; (try cbv)) | (rw [e0]; (try cbv)) | ((refine callB (hG _ _ _ h17) ?_; intro b hb; subst hb); (try cbv)) | (rw [hK]; (try cbv)) | fail)
          rw [hr]
theorem law6 (xs : List DV) (h : All2 (Typed Tryz.prog 6) [26, 27, 68, 69, 5] xs) : GG 6 xs (.one (false, [.bool true])) := by
  obtain ⟨x1, x2, x3, x4, x5, rfl, h1, h2, h3, h4, h5⟩ := all2_five h
  obtain ⟨nums, names, nots, e1, e2, e3, sw, se, l, we, o, w, rq, qe, heq, hx, _⟩ := hasAsk (xs := [x1, x2, x3, x4]) ⟨h1, h2, h3, h4, trivial⟩
  obtain ⟨b5, d5⟩ := x5
  obtain ⟨h5, k5⟩ := h5
  obtain ⟨m, rfl, hm⟩ := hasU8 h5
  obtain ⟨m0, m1⟩ := wf_u8 hm
  dsimp only at k5
  rw [k5, u8Arg]
  have := g6 hx o w m m0 m1
  simp only [List.cons.injEq, and_true] at heq
  obtain ⟨rfl, rfl, rfl, rfl⟩ := heq
  exact this
end Go.Vi
