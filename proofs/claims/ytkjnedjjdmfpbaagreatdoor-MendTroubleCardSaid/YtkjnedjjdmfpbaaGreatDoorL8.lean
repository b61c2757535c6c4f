/-
  MendDecides returns true at all typed arguments.
-/
import Derived.Test.YtkjnedjjdmfpbaaGreatDoorA5
import Derived.Test.YtkjnedjjdmfpbaaGreatDoorProg
import Derived.KernelRfl
import Derived.Test.YtkjnedjjdmfpbaaGreatDoorC1
import Derived.Test.YtkjnedjjdmfpbaaGreatDoorC2
import Derived.Test.YtkjnedjjdmfpbaaGreatDoorC3
import Derived.Test.YtkjnedjjdmfpbaaGreatDoorQ3
import Derived.Test.YtkjnedjjdmfpbaaGreatDoorP8
import Derived.Test.YtkjnedjjdmfpbaaGreatDoorQ1
set_option linter.unusedVariables false
set_option linter.unusedSimpArgs false
set_option linter.unusedSectionVars false
namespace Go.Vi
open Go.Proofs
set_option maxRecDepth 100000
/-- palantype/palantypelaw04.MendDecides -/
def v8 : Code :=
  (.seq (.region [⟨some 4, .box (.t 0), none⟩, ⟨some 6, .box (.t 2), none⟩, ⟨some 8, .mv (.con (.bool false)), none⟩] [1, 3, 4, 6])
  (.seq (.seq (.region [⟨some 15, .load true 3 (.t 4), none⟩, ⟨some 16, .mv (.t 1), none⟩, ⟨some 17, .call 1 15 [.t 15, .t 16], none⟩, ⟨some 18, .not (.t 17), none⟩, ⟨some 19, .mv (.t 18), none⟩, ⟨some 20, .load true 3 (.t 6), some (19, false)⟩, ⟨some 21, .mv (.t 3), some (19, false)⟩, ⟨some 22, .call 1 35 [.t 20, .t 21], some (19, false)⟩, ⟨some 23, .not (.t 22), some (19, false)⟩, ⟨some 24, .pick (.t 19) (.con (.bool true)) (.t 23), none⟩] [1, 3, 4, 6, 24])
  (.cond (.t 24) (.seq (.region [⟨some 25, .call 1 17 [], none⟩, ⟨some 8, .mv (.t 25), none⟩] [8])
   .ret) .skip))
  (.seq (.region [⟨some 26, .load true 3 (.t 6), none⟩, ⟨some 27, .call 0 31 [.t 26], none⟩, ⟨some 28, .call 1 36 [.t 27], none⟩, ⟨some 9, .mv (.t 28), none⟩] [1, 3, 4, 6, 9])
  (.seq (.region [⟨some 30, .load true 3 (.t 4), none⟩, ⟨some 31, .call 0 19 [.t 30], none⟩, ⟨some 32, .mv (.t 1), none⟩, ⟨some 33, .call 0 20 [.t 32], none⟩, ⟨some 34, .load true 3 (.t 6), none⟩, ⟨some 35, .call 0 31 [.t 34], none⟩, ⟨some 36, .mv (.t 3), none⟩, ⟨some 37, .call 0 32 [.t 36], none⟩, ⟨some 38, .call 0 29 [.t 31, .t 33, .t 35, .t 37], none⟩, ⟨some 29, .mv (.t 38), none⟩, ⟨some 39, .extract (.t 29) 0, none⟩, ⟨some 40, .extract (.t 29) 1, none⟩, ⟨some 10, .mv (.t 39), none⟩, ⟨some 11, .mv (.t 40), none⟩] [1, 3, 4, 6, 9, 10, 11])
  (.seq (.seq (.region [⟨some 41, .mv (.t 9), none⟩, ⟨some 42, .cmp .eql (.t 41) (.con (.int .i64 0)), none⟩, ⟨some 43, .load true 3 (.t 6), none⟩, ⟨some 44, .call 1 37 [.t 43], none⟩, ⟨some 45, .boolEq true (.t 42) (.t 44), none⟩, ⟨some 46, .mv (.t 45), none⟩, ⟨some 47, .mv (.t 9), some (46, false)⟩, ⟨some 48, .cmp .neq (.t 47) (.con (.int .i64 0)), some (46, false)⟩, ⟨some 49, .mv (.t 48), some (46, false)⟩, ⟨some 50, .mv (.t 9), some (49, true)⟩, ⟨some 51, .cmp .neq (.t 50) (.con (.int .i64 1)), some (49, true)⟩, ⟨some 52, .pick (.t 49) (.t 51) (.con (.bool false)), some (46, false)⟩, ⟨some 53, .pick (.t 46) (.con (.bool true)) (.t 52), none⟩] [1, 3, 4, 6, 10, 11, 53])
  (.cond (.t 53) (.seq (.region [⟨some 8, .mv (.con (.bool false)), none⟩] [8])
   .ret) .skip))
  (.seq (.seq (.region [⟨some 54, .load true 3 (.t 4), none⟩, ⟨some 55, .mv (.t 1), none⟩, ⟨some 56, .load true 3 (.t 6), none⟩, ⟨some 57, .mv (.t 3), none⟩, ⟨some 58, .call 1 38 [.t 54, .t 55, .t 56, .t 57], none⟩, ⟨some 12, .mv (.t 58), none⟩] [1, 3, 4, 6, 10, 11, 12])
  (.seq (.region [⟨some 59, .mv (.t 12), none⟩, ⟨some 60, .cmp .neq (.t 59) (.con (.int .i64 0)), none⟩] [1, 3, 4, 6, 10, 11, 12, 60])
  (.cond (.t 60) (.seq (.region [⟨some 61, .mv (.t 11), none⟩, ⟨some 62, .mv (.t 12), none⟩, ⟨some 63, .cmp .eql (.t 61) (.t 62), none⟩, ⟨some 64, .mv (.t 63), none⟩, ⟨some 65, .mv (.t 10), some (64, true)⟩, ⟨some 66, .len (.t 65), some (64, true)⟩, ⟨some 67, .cmp .eql (.t 66) (.con (.int .i64 0)), some (64, true)⟩, ⟨some 68, .pick (.t 64) (.t 67) (.con (.bool false)), none⟩, ⟨some 69, .mv (.t 68), none⟩, ⟨some 70, .call 1 17 [], some (69, true)⟩, ⟨some 71, .pick (.t 69) (.t 70) (.con (.bool false)), none⟩, ⟨some 8, .mv (.t 71), none⟩] [8])
   .ret) .skip)))
  (.seq (.region [⟨some 72, .load true 3 (.t 4), none⟩, ⟨some 73, .mv (.t 1), none⟩, ⟨some 74, .load true 3 (.t 6), none⟩, ⟨some 75, .mv (.t 3), none⟩, ⟨some 76, .call 0 39 [.t 72, .t 73, .t 74, .t 75], none⟩, ⟨some 13, .mv (.t 76), none⟩] [10, 11, 13])
  (.seq (.seq (.region [⟨some 77, .mv (.t 11), none⟩, ⟨some 78, .cmp .neq (.t 77) (.con (.int .i64 0)), none⟩, ⟨some 79, .mv (.t 78), none⟩, ⟨some 80, .mv (.t 10), some (79, false)⟩, ⟨some 81, .len (.t 80), some (79, false)⟩, ⟨some 82, .mv (.t 13), some (79, false)⟩, ⟨some 83, .len (.t 82), some (79, false)⟩, ⟨some 84, .cmp .neq (.t 81) (.t 83), some (79, false)⟩, ⟨some 85, .pick (.t 79) (.con (.bool true)) (.t 84), none⟩] [10, 13, 85])
  (.cond (.t 85) (.seq (.region [⟨some 8, .mv (.con (.bool false)), none⟩] [8])
   .ret) .skip))
  (.seq (.seq (.region [⟨some 14, .mv (.con (.int .i64 0)), none⟩] [10, 13, 14])
  (.block 0 (.loop [10, 13, 14] (.seq (.seq (.region [⟨some 86, .mv (.t 14), none⟩, ⟨some 87, .mv (.t 13), none⟩, ⟨some 88, .len (.t 87), none⟩, ⟨some 89, .cmp .lss (.t 86) (.t 88), none⟩] [10, 13, 14, 89])
    (.cond (.t 89) .skip (.exit 0)))
    (.seq (.block 1 (.seq (.region [⟨some 92, .mv (.t 10), none⟩, ⟨some 93, .mv (.t 14), none⟩, ⟨some 94, .indexAddr 1 (.t 92) (.t 93), none⟩, ⟨some 95, .load false 1 (.t 94), none⟩, ⟨some 96, .mv (.t 13), none⟩, ⟨some 97, .mv (.t 14), none⟩, ⟨some 98, .indexAddr 1 (.t 96) (.t 97), none⟩, ⟨some 99, .load false 1 (.t 98), none⟩, ⟨some 100, .cmp .neq (.t 95) (.t 99), none⟩] [10, 13, 14, 100])
     (.cond (.t 100) (.seq (.region [⟨some 8, .mv (.con (.bool false)), none⟩] [8])
      .ret) .skip)))
    (.region [⟨some 90, .mv (.t 14), none⟩, ⟨some 91, .arith .add .i64 (.t 90) (.con (.int .i64 1)), none⟩, ⟨some 14, .mv (.t 91), none⟩] [10, 13, 14]))))))
  (.seq (.region [⟨some 101, .call 1 17 [], none⟩, ⟨some 8, .mv (.t 101), none⟩] [8])
  .ret))))))))))
def r8 : List Res := [.tmp 8]

theorem c8 : chkFn Tryz.prog 8 4 v8 r8 = true := by kernel_rfl
end Go.Vi
namespace Go.Vi
open Go.Proofs
set_option maxRecDepth 100000
set_option linter.unusedVariables false
set_option linter.unusedSimpArgs false
theorem g39 {nums names nots e1 e2 e3 sw se l we rq qe} (hx : AskIn nums names nots e1 e2 e3 sw se l we rq qe) (ht : LexThin nums names nots) (o w : Int) (hl : l.length ≤ 100000) (hn : rq.length ≤ 25) :
    GG 39 [(true, [.row 2 e1, .row 1 e2, .row 1 e3]), (false, [.row 3 se]), (true, [.row 2 we, .int .i64 o, .int .i64 w]), (false, [.row 5 qe])] (.one (false, [.row 1 ((errsS nums names nots sw l o w rq).map fun e => [.int .i64 e])])) :=
  g39a e1 e2 e3 se we qe o w rq hx.hq hn _ (aloneS (lexP nums names nots) sw l o w) (fun acc q => refS_alone _ _ _ _ _ acc q) fun q hq => g63 hx.lex ht sw se hx.hse hx.hsl l we hx.he hl hx.hls o w q (hx.hqs q hq)
theorem repE_two (l : List Sd) (o w : Int) : (repE l o w = 0 ∧ repOk l o w = true) ∨ (repE l o w = 1 ∧ repOk l o w = false) := by
  unfold repE
  cases repOk l o w
  · exact .inr ⟨by decide, rfl⟩
  · exact .inl ⟨by decide, rfl⟩
set_option maxHeartbeats 8000000 in
theorem g8 {nums names nots e1 e2 e3 sw se l we rq qe} (hx : AskIn nums names nots e1 e2 e3 sw se l we rq qe) (o w : Int) :
    GG 8 [(true, [.row 2 e1, .row 1 e2, .row 1 e3]), (false, [.row 3 se]), (true, [.row 2 we, .int .i64 o, .int .i64 w]), (false, [.row 5 qe])] (.one (false, [.bool true])) := by
  have hls : se.length = sw.length := map_len hx.hse
  have h15 := g15 nums names nots 3 e1 e2 e3 se hx.lex.he1 hx.lex.he2 hx.lex.he3 hx.lex.hm1 hx.lex.hm2 hx.lex.hm3.1 (fun x h => (hx.lex.hm4 x h).1)
  have h35 := g35 l we hx.he hx.hl o w rq qe hx.hq hx.hql (fun q hq => (hx.hqs q hq).hp)
  have h17 := g17
  rw [hls] at h15
  cases c1 : thin nums names nots sw.length
  · rw [c1] at h15
    clear hx
    refine start c8 rfl ?_
    intro r' hr G hG hGW lt le eq add sub mul quo rem conv strEq strLt strCat strLen strAt strCut bytes ofBytes len nth cut fits app rep setEl look upd ne strNe H
    (try cbv)
    repeat' (first | ((refine callB (hG _ _ _ h15) ?_; intro b hb; subst hb); (try cbv)) | ((refine callB (hG _ _ _ h17) ?_; intro b hb; subst hb); (try cbv)) | fail)
    rw [hr]
  cases c2 : few l rq
  · rw [c1] at h15
    rw [c2] at h35
    clear hx
    refine start c8 rfl ?_
    intro r' hr G hG hGW lt le eq add sub mul quo rem conv strEq strLt strCat strLen strAt strCut bytes ofBytes len nth cut fits app rep setEl look upd ne strNe H
    (try cbv)
    repeat' (first | ((refine callB (hG _ _ _ h15) ?_; intro b hb; subst hb); (try cbv)) | ((refine callB (hG _ _ _ h35) ?_; intro b hb; subst hb); (try cbv)) | ((refine callB (hG _ _ _ h17) ?_; intro b hb; subst hb); (try cbv)) | fail)
    rw [hr]
  obtain ⟨ht, hsw⟩ := thinT c1
  obtain ⟨f1, f2, f3, f4⟩ := few_small c2
  rw [c1] at h15
  rw [c2] at h35
  have h31 := g31 l we hx.he (by omega) o w
  have h36 := g36 l we hx.he hx.hl hx.hls o w
  have h19 := g19T hx.lex ht
  have h20 := g20 sw se hx.hse (by omega)
  have h32 := g32 rq qe hx.hq (by omega) (fun q hq => by have := f3 q hq; omega)
  have h29 := g29 hx o w
  have h37 := g37 l we hx.he hx.hl hx.hls o w
  have h38 := g38 hx ht o w
  have h39 := g39 hx ht o w (by omega) (by omega)
  have hrep := repE_two l o w
  have herr : (errsS nums names nots sw l o w rq).length = rq.length := by
    have := foldD_len (refL nums names nots sw l o w) rq (ordS (qltS rq) rq.length) ⟨[], [], List.replicate rq.length 0⟩
    rw [errsS, decS]
    simpa using this.2.2
  rw [decideR] at h29
  generalize repE l o w = re at h36 hrep
  generalize repOk l o w = rb at h37 hrep
  by_cases h0 : decE nums names nots sw l o w rq.length = 0
  · rw [if_pos h0] at h29
    rw [h0] at h38
    obtain ⟨S, hS⟩ : ∃ S, S = (errsS nums names nots sw l o w rq).map fun e => [D.int .i64 e] := ⟨_, rfl⟩
    rw [← hS] at h29 h39
    have hSl : S.length ≤ maxLen := by rw [hS]; simp only [List.length_map, maxLen]; omega
    have hSn : ∀ k, k < S.length → ∃ c, S[k]? = some [.int .i64 c] := fun k hk => by
      rw [hS] at hk ⊢
      rw [List.length_map] at hk
      rw [List.getElem?_map, List.getElem?_eq_getElem hk]
      exact ⟨_, rfl⟩
    clear hx hS herr h0
    rcases hrep with ⟨rfl, rfl⟩ | ⟨rfl, rfl⟩
    all_goals
      refine start c8 rfl ?_
      intro r' hr G hG hGW lt le eq add sub mul quo rem conv strEq strLt strCat strLen strAt strCut bytes ofBytes len nth cut fits app rep setEl look upd ne strNe H
      have n0 : ne 0 0 = false := by rw [H.ne]; rfl
      have n1 : ne 1 1 = false := by rw [H.ne]; rfl
      have n2 : ne 1 0 = true := by rw [H.ne]; rfl
      have z0 : eq 0 0 = true := by rw [H.eq]; rfl
      have z1 : eq 1 0 = false := by rw [H.eq]; rfl
      have nl : ne (len S) (len S) = false := by rw [H.ne]; simp
      (try cbv)
      repeat' (first | ((refine callB (hG _ _ _ h15) ?_; intro b hb; subst hb); (try cbv)) | ((refine callB (hG _ _ _ h35) ?_; intro b hb; subst hb); (try cbv)) | ((refine call0 (hG _ _ _ h31) ?_); (try cbv)) | ((refine callI (hG _ _ _ h36) ?_; intro b hb; subst hb); (try cbv)) | ((refine call0 (hG _ _ _ h19) ?_); (try cbv)) | ((refine call0 (hG _ _ _ h20) ?_); (try cbv)) | ((refine call0 (hG _ _ _ h32) ?_); (try cbv)) | ((refine call0 (hG _ _ _ h29) ?_); (try cbv)) | (rw [z0]; (try cbv)) | (rw [z1]; (try cbv)) | (rw [n1]; (try cbv)) | (rw [n2]; (try cbv)) | (rw [n0]; (try cbv)) | ((refine callB (hG _ _ _ h37) ?_; intro b hb; subst hb); (try cbv)) | ((refine callI (hG _ _ _ h38) ?_; intro b hb; subst hb); (try cbv)) | ((refine call0 (hG _ _ _ h39) ?_); (try cbv)) | (rw [nl]; (try cbv)) | fail)
      refine loopK ?_
      intro K hK
      obtain ⟨N, hN⟩ : ∃ N, N = S.length := ⟨_, rfl⟩
      obtain ⟨P, hP⟩ : ∃ P : Nat → Prop, ∀ k, P k = (True) := ⟨_, fun _ => rfl⟩
      refine loopU N (fun k => [(10, .v false [.d (.row 1 S)]), (13, .v false [.d (.row 1 S)]), (14, .v false [.d (.int .i64 (Int.ofNat k))])]) [(0, .blk [.d (.row 2 e1), .d (.row 1 e2), .d (.row 1 e3)]), (1, .blk [.d (.row 2 we), .d (.int .i64 o), .d (.int .i64 w)])] P ⟨rfl, rfl⟩ ?_ ?_
      · rw [hP]; trivial
      intro k hk _
      rw [hN] at hk
      by_cases hkl : k < S.length
      · have g1 : lt (Int.ofNat k) (len S) = true := by rw [H.lt, H.len]; exact decide_eq_true (Int.ofNat_lt.2 hkl)
        have g3 := H.inc hkl hSl
        obtain ⟨c, hc⟩ := hSn k hkl
        have g2 : nth S (Int.ofNat k) = some [.int .i64 c] := by rw [H.nth, if_pos (show (0 : Int) ≤ Int.ofNat k from Int.natCast_nonneg _)]; exact hc
        have g4 : ne c c = false := by rw [H.ne]; simp
        (try cbv)
        repeat' (first | (rw [g1]; (try cbv)) | (rw [g2]; (try cbv)) | (rw [g4]; (try cbv)) | fail)
        exact ⟨by rw [hN]; exact hkl, by rw [hP]; trivial, by rw [g3], trivial⟩
      · have g1 : lt (Int.ofNat k) (len S) = false := by rw [H.lt, H.len]; exact decide_eq_false (fun h => hkl (Int.ofNat_lt.1 h))
        (try cbv)
        repeat' (first | (rw [g1]; (try cbv)) | (rw [hK]; (try cbv)) | ((refine callB (hG _ _ _ h17) ?_; intro b hb; subst hb); (try cbv)) | fail)
        rw [hr]
  · rw [if_neg h0] at h29
    generalize decE nums names nots sw l o w rq.length = c at h29 h38 h0
    clear hx h39 herr
    rcases hrep with ⟨rfl, rfl⟩ | ⟨rfl, rfl⟩
    all_goals
      refine start c8 rfl ?_
      intro r' hr G hG hGW lt le eq add sub mul quo rem conv strEq strLt strCat strLen strAt strCut bytes ofBytes len nth cut fits app rep setEl look upd ne strNe H
      have n0 : ne 0 0 = false := by rw [H.ne]; rfl
      have n1 : ne 1 1 = false := by rw [H.ne]; rfl
      have n2 : ne 1 0 = true := by rw [H.ne]; rfl
      have z0 : eq 0 0 = true := by rw [H.eq]; rfl
      have z1 : eq 1 0 = false := by rw [H.eq]; rfl
      have z2 : eq c c = true := by rw [H.eq]; simp
      have z3 : eq (len []) 0 = true := by rw [H.len, H.eq]; rfl
      have n3 : ne c 0 = true := by rw [H.ne]; simpa using h0
      (try cbv)
      repeat' (first | ((refine callB (hG _ _ _ h15) ?_; intro b hb; subst hb); (try cbv)) | ((refine callB (hG _ _ _ h35) ?_; intro b hb; subst hb); (try cbv)) | ((refine call0 (hG _ _ _ h31) ?_); (try cbv)) | ((refine callI (hG _ _ _ h36) ?_; intro b hb; subst hb); (try cbv)) | ((refine call0 (hG _ _ _ h19) ?_); (try cbv)) | ((refine call0 (hG _ _ _ h20) ?_); (try cbv)) | ((refine call0 (hG _ _ _ h32) ?_); (try cbv)) | ((refine call0 (hG _ _ _ h29) ?_); (try cbv)) | (rw [z0]; (try cbv)) | (rw [z1]; (try cbv)) | (rw [n1]; (try cbv)) | (rw [n2]; (try cbv)) | (rw [n0]; (try cbv)) | ((refine callB (hG _ _ _ h37) ?_; intro b hb; subst hb); (try cbv)) | ((refine callI (hG _ _ _ h38) ?_; intro b hb; subst hb); (try cbv)) | (rw [n3]; (try cbv)) | (rw [z2]; (try cbv)) | (rw [z3]; (try cbv)) | ((refine callB (hG _ _ _ h17) ?_; intro b hb; subst hb); (try cbv)) | fail)
      rw [hr]
theorem law8 (xs : List DV) (h : All2 (Typed Tryz.prog 6) [26, 27, 68, 69] xs) : GG 8 xs (.one (false, [.bool true])) := by
  obtain ⟨nums, names, nots, e1, e2, e3, sw, se, l, we, o, w, rq, qe, rfl, hx, _⟩ := hasAsk h
  exact g8 hx o w
end Go.Vi
