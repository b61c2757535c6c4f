/-
  What a law foresees and lets in.
-/
import Derived.Test.YtkjnedjjdmfpbaaGreatDoorP8
import Derived.Test.YtkjnedjjdmfpbaaGreatDoorP7
set_option linter.unusedVariables false
set_option linter.unusedSimpArgs false
set_option linter.unusedSectionVars false
namespace Go.Vi
open Go.Proofs
set_option maxRecDepth 100000
set_option linter.unusedVariables false
set_option linter.unusedSimpArgs false
theorem lexP_kind {nums : List Num} {names : List (List ByteArray)} {nots : List ByteArray} {p : ByteArray × Mrk} (h : p ∈ lexP nums names nots) : p.2.k ≠ 0 := by
  have hn : ∀ (ls : List (List ByteArray)) (i : Nat), ∀ q ∈ namesP i ls, q.2.k ≠ 0 := by
    intro ls
    induction ls with
    | nil => intro i q hq; simp [namesP] at hq
    | cons x r ih =>
      intro i q hq
      rw [namesP, List.mem_append] at hq
      rcases hq with hq | hq
      · obtain ⟨s, _, rfl⟩ := List.mem_map.1 hq
        exact (show (2 : Int) ≠ 0 by decide)
      · exact ih _ q hq
  rw [lexP, List.mem_append, List.mem_append] at h
  rcases h with h | h | h
  · obtain ⟨s, _, rfl⟩ := List.mem_map.1 h
    exact (show (1 : Int) ≠ 0 by decide)
  · exact hn _ _ p h
  · obtain ⟨s, _, rfl⟩ := List.mem_map.1 h
    exact (show (3 : Int) ≠ 0 by decide)
theorem senseR_eq (nums : List Num) (names : List (List ByteArray)) (nots : List ByteArray) (l : List ByteArray) : senseR nums names nots l = senseM (lexP nums names nots) l := by
  rw [senseM_eq]
  induction l with
  | nil => rfl
  | cons s r ih =>
    rw [senseR, senseC] at ih
    rw [senseR, senseC, List.map_cons, List.filter_cons, List.filterMap_cons, ih]
    have key : (meansS nums names nots s).k ≠ 0 ∧ markC (lexP nums names nots) s = some (meansS nums names nots s) ∨ (meansS nums names nots s).k = 0 ∧ markC (lexP nums names nots) s = none := by
      unfold meansS markC
      cases hf : findM (lexP nums names nots) s with
      | some m =>
        refine .inl ⟨?_, rfl⟩
        obtain ⟨p, hp, rfl⟩ := Option.map_eq_some_iff.1 hf
        exact lexP_kind (List.mem_of_find?_eq_some hp)
      | none =>
        dsimp only
        by_cases h0 : 0 ≤ digS s
        · rw [if_pos h0, if_pos h0]
          exact .inl ⟨(show (1 : Int) ≠ 0 by decide), rfl⟩
        · rw [if_neg h0, if_neg h0]
          exact .inr ⟨rfl, rfl⟩
    rcases key with ⟨h1, h2⟩ | ⟨h1, h2⟩
    · rw [h2, if_pos (by simpa using h1)]
    · rw [h2, if_neg (by simpa using h1)]
theorem listedS_eq (l : List ByteArray) : listedS' [l] = listedS l := by
  unfold listedS' listedS
  simp only [List.all_cons, List.all_nil, Bool.and_true, decide_eq_true_eq]
  by_cases h : 80 < l.length
  · rw [if_neg (by omega), if_pos h]
  · rw [if_pos (by omega), if_neg h]
theorem g40 {nums : List Num} {names : List (List ByteArray)} {nots : List ByteArray} {e1 e2 e3 : List (List D)} (hx : LexIn nums names nots e1 e2 e3) : GG 40 [(true, [.row 2 e1, .row 1 e2, .row 1 e3])] (.one (false, [.int .i64 (readE nums names nots)])) := by
  have h58 := g58L hx
  obtain ⟨m, hm⟩ : ∃ m, readR nums names nots = .many [(false, [m]), (false, [.int .i64 (readE nums names nots)])] := by
    by_cases h : readE nums names nots = 0
    · rw [readR_ok h, h]; exact ⟨_, rfl⟩
    · rw [readR_bad h]; exact ⟨_, rfl⟩
  rw [hm] at h58
  generalize readE nums names nots = c at h58 ⊢
  clear hx hm
  refine start c40 rfl ?_
  intro r' hr G hG hGW lt le eq add sub mul quo rem conv strEq strLt strCat strLen strAt strCut bytes ofBytes len nth cut fits app rep setEl look upd ne strNe H
  (try cbv)
  repeat' (first | ((refine call0 (hG _ _ _ h58) ?_); (try cbv)) | fail)
  rw [hr]
end Go.Vi
namespace Go.Vi
open Go.Proofs
set_option maxRecDepth 100000
set_option linter.unusedVariables false
set_option linter.unusedSimpArgs false
/-- A lexicon that is not too large. -/
structure LexThin (nums : List Num) (names : List (List ByteArray)) (nots : List ByteArray) : Prop where
  s1 : nums.length ≤ 45
  s2 : names.length ≤ 45
  s3 : nots.length ≤ 45
  s4 : ∀ l ∈ names, l.length ≤ 8
theorem g34T {nums names nots e1 e2 e3} (hx : LexIn nums names nots e1 e2 e3) (ht : LexThin nums names nots) : GG 34 [(true, [.row 2 e1, .row 1 e2, .row 1 e3])] (.one (false, [.int .i64 (readE nums names nots)])) :=
  g34 hx (by have := ht.s1; omega) (by have := ht.s2; omega) (by have := ht.s3; omega) (fun x h => by have := ht.s4 x h; omega)
theorem g19T {nums names nots e1 e2 e3} (hx : LexIn nums names nots e1 e2 e3) (ht : LexThin nums names nots) : GG 19 [(true, [.row 2 e1, .row 1 e2, .row 1 e3])] (.one (true, [.row 2 e1, .row 1 e2, .row 1 e3])) :=
  g19 ⟨nums, names, nots⟩ [.row 2 e1, .row 1 e2, .row 1 e3] ⟨e1, e2, e3, hx.he1, hx.he2, hx.he3, rfl⟩ ⟨by have := ht.s1; dsimp only; omega, by have := ht.s2; dsimp only; omega, by have := ht.s3; dsimp only; omega, fun x h => by have := ht.s4 x h; omega⟩
theorem g22 {nums names nots e1 e2 e3} (hx : LexIn nums names nots e1 e2 e3) (ht : LexThin nums names nots) (sw : List Swp) (se : List (List D)) (hse : swE sw se) (hsl : sw.length ≤ maxLen) :
    GG 22 [(true, [.row 2 e1, .row 1 e2, .row 1 e3]), (false, [.row 3 se])] (.one (false, [.int .i64 (ruledE nums names nots sw)])) := by
  have h34 := g34T hx ht
  have h27 := g27 sw se hse hsl
  rw [ruledE]
  by_cases h0 : readE nums names nots = 0
  · rw [if_pos h0]
    rw [h0] at h34
    generalize swapsFault sw = c at h27 ⊢
    clear hx ht
    refine start c22 rfl ?_
    intro r' hr G hG hGW lt le eq add sub mul quo rem conv strEq strLt strCat strLen strAt strCut bytes ofBytes len nth cut fits app rep setEl look upd ne strNe H
    have n0 : ne 0 0 = false := by rw [H.ne]; rfl
    (try cbv)
    repeat' (first | ((refine callI (hG _ _ _ h34) ?_; intro b hb; subst hb); (try cbv)) | (rw [n0]; (try cbv)) | ((refine callI (hG _ _ _ h27) ?_; intro b hb; subst hb); (try cbv)) | fail)
    rw [hr]
  · rw [if_neg h0]
    generalize readE nums names nots = c at h34 h0 ⊢
    clear hx ht
    refine start c22 rfl ?_
    intro r' hr G hG hGW lt le eq add sub mul quo rem conv strEq strLt strCat strLen strAt strCut bytes ofBytes len nth cut fits app rep setEl look upd ne strNe H
    have n1 : ne c 0 = true := by rw [H.ne]; simpa using h0
    (try cbv)
    repeat' (first | ((refine callI (hG _ _ _ h34) ?_; intro b hb; subst hb); (try cbv)) | (rw [n1]; (try cbv)) | fail)
    rw [hr]
/-- A report and requests that are not too large. -/
def few2 (l : List Sd) (rq : List Rq) : Bool := decide (l.length ≤ 85) && decide (rq.length ≤ 25)
def few1 (l : List Sd) (rq : List Rq) : Bool := rq.all (fun q => shortL q.put 12) && few2 l rq
def few (l : List Sd) (rq : List Rq) : Bool := l.all (fun x => decide (x.t.size ≤ 40)) && few1 l rq
theorem g35 (l : List Sd) (we : List (List D)) (he : sdE l we) (hl : l.length ≤ maxLen) (o w : Int) (rq : List Rq) (qe : List (List D)) (hq : rqE rq qe) (hql : rq.length ≤ maxLen) (hqs : ∀ q ∈ rq, Short q.put) :
    GG 35 [(true, [.row 2 we, .int .i64 o, .int .i64 w]), (false, [.row 5 qe])] (.one (false, [.bool (few l rq)])) := by
  have hl1 : we.length = l.length := map_len he
  have hl2 : qe.length = rq.length := map_len hq
  refine start c35 rfl ?_
  intro r' hr G hG hGW lt le eq add sub mul quo rem conv strEq strLt strCat strLen strAt strCut bytes ofBytes len nth cut fits app rep setEl look upd ne strNe H
  cbv
  obtain ⟨N, hN⟩ : ∃ N, N = l.length := ⟨_, rfl⟩
  obtain ⟨P, hP⟩ : ∃ P : Nat → Prop, ∀ k, P k = (r' = .one (false, [.bool ((l.drop k).all (fun x => decide (x.t.size ≤ 40)) && few1 l rq)])) := ⟨_, fun _ => rfl⟩
  refine loopU N (fun k => [(1, .v false [.d (.row 5 qe)]), (2, .v false [.loc 0 0]), (5, .v false [.d (.int .i64 (Int.ofNat k))])]) [(0, .blk [.d (.row 2 we), .d (.int .i64 o), .d (.int .i64 w)])] P ⟨rfl, rfl⟩ ?_ ?_
  · rw [hP]; exact hr
  intro k hk hr
  rw [hN] at hk
  rw [hP] at hr
  have key : (r' = .one (false, [.bool (few1 l rq)]) ∧ (lt (Int.ofNat k) (len we) = false ∨ (lt (Int.ofNat k) (len we) = true ∧ lt (Int.ofNat k) 86 = false))) ∨ (∃ x r, l.drop k = x :: r ∧ lt (Int.ofNat k) 86 = true) := by
    rcases hd : l.drop k with _ | ⟨x, r⟩
    · exact .inl ⟨by rw [hr, hd]; rfl, .inl (H.rowNil he hd hk)⟩
    · obtain ⟨h1, h2, h3, h4, h5⟩ := H.rowCons he hl hd
      cases h46 : lt (Int.ofNat k) 86
      · rw [H.lt, decide_eq_false_iff_not] at h46
        refine .inl ⟨?_, .inr ⟨h1, rfl⟩⟩
        have : few1 l rq = false := by
          unfold few1 few2
          rw [decide_eq_false (p := l.length ≤ 85) (by simp at h46; omega)]
          simp
        rw [hr, this, Bool.and_false]
      · exact .inr ⟨x, r, rfl, rfl⟩
  rcases key with ⟨hr, hx⟩ | ⟨x, r, hd, h46⟩
  · rcases hx with hx | ⟨hx, hy⟩
    case' inr => (try cbv)
                 repeat' (first | (rw [hx]; (try cbv)) | (rw [hy]; (try cbv)) | fail)
    case' inl => (try cbv)
                 repeat' (first | (rw [hx]; (try cbv)) | fail)
    all_goals
      obtain ⟨N, hN⟩ : ∃ N, N = rq.length := ⟨_, rfl⟩
      obtain ⟨P, hP⟩ : ∃ P : Nat → Prop, ∀ k, P k = (r' = .one (false, [.bool ((rq.drop k).all (fun q => shortL q.put 12) && few2 l rq)])) := ⟨_, fun _ => rfl⟩
      refine loopU N (fun k => [(1, .v false [.d (.row 5 qe)]), (2, .v false [.loc 0 0]), (6, .v false [.d (.int .i64 (Int.ofNat k))])]) [(0, .blk [.d (.row 2 we), .d (.int .i64 o), .d (.int .i64 w)])] P ⟨rfl, rfl⟩ ?_ ?_
      · rw [hP]; exact hr
      intro k hk hr
      rw [hN] at hk
      rw [hP] at hr
      have key : (r' = .one (false, [.bool (few2 l rq)]) ∧ (lt (Int.ofNat k) (len qe) = false ∨ (lt (Int.ofNat k) (len qe) = true ∧ lt (Int.ofNat k) 26 = false))) ∨ (∃ x r, rq.drop k = x :: r ∧ lt (Int.ofNat k) 26 = true) := by
        rcases hd : rq.drop k with _ | ⟨x, r⟩
        · exact .inl ⟨by rw [hr, hd]; rfl, .inl (H.rowNil hq hd hk)⟩
        · obtain ⟨h1, h2, h3, h4, h5⟩ := H.rowCons hq hql hd
          cases h46 : lt (Int.ofNat k) 26
          · rw [H.lt, decide_eq_false_iff_not] at h46
            refine .inl ⟨?_, .inr ⟨h1, rfl⟩⟩
            have : few2 l rq = false := by
              unfold few2
              rw [decide_eq_false (p := rq.length ≤ 25) (by simp at h46; omega)]
              simp
            rw [hr, this, Bool.and_false]
          · exact .inr ⟨x, r, rfl, rfl⟩
      rcases key with ⟨hr, hx⟩ | ⟨x, r, hd, h46⟩
      · have hr : r' = .one (false, [.bool (le (len we) 85 && le (len qe) 25)]) := by
          rw [hr, few2, H.len, H.len, hl1, hl2, H.leK (c := 85) _ 85 rfl, H.leK (c := 25) _ 25 rfl]
        rcases hx with hx | ⟨hx, hy⟩
        case' inr => (try cbv)
                     repeat' (first | (rw [hx]; (try cbv)) | (rw [hy]; (try cbv)) | fail)
        case' inl => (try cbv)
                     repeat' (first | (rw [hx]; (try cbv)) | fail)
        all_goals
          cases c1 : le (len we) 85
          · rw [c1] at hr
            (try cbv)
            repeat' (first | (rw [c1]; (try cbv)) | fail)
            rw [hr]; rfl
          · rw [c1] at hr
            (try cbv)
            repeat' (first | (rw [c1]; (try cbv)) | fail)
            rw [hr]; rfl
      · obtain ⟨h1, h2, h3, h4, h5⟩ := H.rowCons hq hql hd
        have hx : x ∈ rq := List.mem_of_getElem? (drop_cons hd).2.1
        have h16 := g16 x.put _ rfl (hqs x hx).1 12
        rw [hd, List.all_cons] at hr
        generalize shortL x.put 12 = c at h16 hr
        simp only [rqD, putD] at h2
        generalize (x.put.map fun s => [D.str s]) = pe at h2 h16
        cases c
        · (try cbv)
          repeat' (first | (rw [h1]; (try cbv)) | (rw [h46]; (try cbv)) | (rw [h2]; (try cbv)) | ((refine callB (hG _ _ _ h16) ?_; intro b hb; subst hb); (try cbv)) | fail)
          rw [hr]; rfl
        · (try cbv)
          repeat' (first | (rw [h1]; (try cbv)) | (rw [h46]; (try cbv)) | (rw [h2]; (try cbv)) | ((refine callB (hG _ _ _ h16) ?_; intro b hb; subst hb); (try cbv)) | fail)
          exact ⟨by rw [hN]; exact h5, by rw [hP, h4, hr]; rfl, by rw [h3], trivial⟩
  · obtain ⟨h1, h2, h3, h4, h5⟩ := H.rowCons he hl hd
    rw [hd, List.all_cons] at hr
    cases c1 : lt 40 (strLen x.t)
    · have c2 := c1
      rw [H.lt, H.strLen] at c2
      have c3 := of_decide_eq_false c2
      rw [decide_eq_true (show x.t.size ≤ 40 by omega)] at hr
      (try cbv)
      repeat' (first | (rw [h1]; (try cbv)) | (rw [h46]; (try cbv)) | (rw [h2]; (try cbv)) | (rw [c1]; (try cbv)) | fail)
      exact ⟨by rw [hN]; exact h5, by rw [hP, h4, hr]; rfl, by rw [h3], trivial⟩
    · have c2 := c1
      rw [H.lt, H.strLen] at c2
      have c3 := of_decide_eq_true c2
      rw [decide_eq_false (show ¬ x.t.size ≤ 40 by omega)] at hr
      (try cbv)
      repeat' (first | (rw [h1]; (try cbv)) | (rw [h46]; (try cbv)) | (rw [h2]; (try cbv)) | (rw [c1]; (try cbv)) | fail)
      rw [hr]; rfl
theorem repOk_eq (l : List Sd) (o w : Int) : repOk l o w = (l.all sdOk && (decide ((l.length : Int) ≤ 80) && (inR o 0 100000 && inR w 0 100000))) := by
  have : decide ((l.length : Int) ≤ 80) = decide (l.length ≤ 80) := by rw [Bool.eq_iff_iff, decide_eq_true_eq, decide_eq_true_eq]; omega
  rw [repOk, this]
  cases l.all sdOk <;> cases decide (l.length ≤ 80) <;> simp
theorem g37 (l : List Sd) (es : List (List D)) (he : sdE l es) (hl : l.length ≤ maxLen) (hs : ∀ x ∈ l, x.t.size ≤ maxLen) (o w : Int) : GG 37 [(true, [.row 2 es, .int .i64 o, .int .i64 w])] (.one (false, [.bool (repOk l o w)])) := by
  have hlen := map_len he
  have ho : GG 28 _ (.one (false, [.bool (inR o 0 100000)])) := g28 o 0 100000
  have hw : GG 28 _ (.one (false, [.bool (inR w 0 100000)])) := g28 w 0 100000
  rw [repOk_eq]
  generalize inR o 0 100000 = p2 at ho ⊢
  generalize inR w 0 100000 = p3 at hw ⊢
  refine start c37 rfl ?_
  intro r' hr G hG hGW lt le eq add sub mul quo rem conv strEq strLt strCat strLen strAt strCut bytes ofBytes len nth cut fits app rep setEl look upd ne strNe H
  cbv
  obtain ⟨N, hN⟩ : ∃ N, N = l.length := ⟨_, rfl⟩
  obtain ⟨P, hP⟩ : ∃ P : Nat → Prop, ∀ k, P k = (r' = .one (false, [.bool ((l.drop k).all sdOk && (decide ((l.length : Int) ≤ 80) && (p2 && p3)))])) := ⟨_, fun _ => rfl⟩
  refine loopU N (fun k => [(1, .v false [.loc 0 0]), (3, .v false [.d (.int .i64 (Int.ofNat k))])]) [(0, .blk [.d (.row 2 es), .d (.int .i64 o), .d (.int .i64 w)])] P ⟨rfl, rfl⟩ ?_ ?_
  · rw [hP]; exact hr
  intro k hk hr
  rw [hN] at hk
  rw [hP] at hr
  rcases hd : l.drop k with _ | ⟨x, r⟩
  · have h1 := H.rowNil he hd hk
    rw [hd, ← hlen, ← H.len, ← H.le] at hr
    cases c1 : le (len es) 80
    · rw [c1] at hr
      (try cbv)
      repeat' (first | (rw [h1]; (try cbv)) | (rw [c1]; (try cbv)) | fail)
      rw [hr]; rfl
    · rw [c1] at hr
      cases p2
      · (try cbv)
        repeat' (first | (rw [h1]; (try cbv)) | (rw [c1]; (try cbv)) | ((refine callB (hG _ _ _ ho) ?_; intro b hb; subst hb); (try cbv)) | fail)
        rw [hr]; rfl
      · (try cbv)
        repeat' (first | (rw [h1]; (try cbv)) | (rw [c1]; (try cbv)) | ((refine callB (hG _ _ _ ho) ?_; intro b hb; subst hb); (try cbv)) | ((refine callB (hG _ _ _ hw) ?_; intro b hb; subst hb); (try cbv)) | fail)
        rw [hr]; rfl
  · obtain ⟨h1, h2, h3, h4, h5⟩ := H.rowCons he hl hd
    have hx : x ∈ l := List.mem_of_getElem? (drop_cons hd).2.1
    have h60 := g60 x.t (hs x hx)
    have h28 : GG 28 _ (.one (false, [.bool (inR x.sp 0 999)])) := g28 x.sp 0 999
    rw [hd, List.all_cons, sdOk] at hr
    generalize textOk x.t = c1 at h60 hr
    generalize inR x.sp 0 999 = c2 at h28 hr
    cases c1
    · (try cbv)
      repeat' (first | (rw [h1]; (try cbv)) | (rw [h2]; (try cbv)) | ((refine callB (hG _ _ _ h60) ?_; intro b hb; subst hb); (try cbv)) | fail)
      rw [hr]; rfl
    cases c2
    · (try cbv)
      repeat' (first | (rw [h1]; (try cbv)) | (rw [h2]; (try cbv)) | ((refine callB (hG _ _ _ h60) ?_; intro b hb; subst hb); (try cbv)) | ((refine callB (hG _ _ _ h28) ?_; intro b hb; subst hb); (try cbv)) | fail)
      rw [hr]; rfl
    · (try cbv)
      repeat' (first | (rw [h1]; (try cbv)) | (rw [h2]; (try cbv)) | ((refine callB (hG _ _ _ h60) ?_; intro b hb; subst hb); (try cbv)) | ((refine callB (hG _ _ _ h28) ?_; intro b hb; subst hb); (try cbv)) | fail)
      exact ⟨by rw [hN]; exact h5, by rw [hP, h4, hr]; rfl, by rw [h3], trivial⟩
theorem repOk_E (l : List Sd) (o w : Int) : repOk l o w = decide (repE l o w = 0) := by
  unfold repE
  cases repOk l o w <;> simp
theorem g38 {nums names nots e1 e2 e3 sw se l we rq qe} (hx : AskIn nums names nots e1 e2 e3 sw se l we rq qe) (ht : LexThin nums names nots) (o w : Int) :
    GG 38 [(true, [.row 2 e1, .row 1 e2, .row 1 e3]), (false, [.row 3 se]), (true, [.row 2 we, .int .i64 o, .int .i64 w]), (false, [.row 5 qe])] (.one (false, [.int .i64 (decE nums names nots sw l o w rq.length)])) := by
  have h22 := g22 hx.lex ht sw se hx.hse hx.hsl
  have h37 := g37 l we hx.he hx.hl hx.hls o w
  have hlen := map_len hx.hq
  rw [repOk_E] at h37
  rw [decE]
  by_cases h0 : ruledE nums names nots sw = 0
  · rw [if_neg (by simpa using h0)]
    rw [h0] at h22
    by_cases h1 : repE l o w = 0
    · rw [if_neg (by simpa using h1)]
      rw [h1, decide_eq_true rfl] at h37
      clear hx ht
      refine start c38 rfl ?_
      intro r' hr G hG hGW lt le eq add sub mul quo rem conv strEq strLt strCat strLen strAt strCut bytes ofBytes len nth cut fits app rep setEl look upd ne strNe H
      have n0 : ne 0 0 = false := by rw [H.ne]; rfl
      by_cases h2 : 20 < rq.length
      · rw [if_pos h2] at hr
        have n1 : lt 20 (len qe) = true := by rw [H.len, hlen, H.gtK (c := 20) _ 20 rfl, decide_eq_true h2]
        (try cbv)
        repeat' (first | ((refine callI (hG _ _ _ h22) ?_; intro b hb; subst hb); (try cbv)) | (rw [n0]; (try cbv)) | ((refine callB (hG _ _ _ h37) ?_; intro b hb; subst hb); (try cbv)) | (rw [n1]; (try cbv)) | fail)
        rw [hr]
      · rw [if_neg h2] at hr
        have n1 : lt 20 (len qe) = false := by rw [H.len, hlen, H.gtK (c := 20) _ 20 rfl, decide_eq_false h2]
        (try cbv)
        repeat' (first | ((refine callI (hG _ _ _ h22) ?_; intro b hb; subst hb); (try cbv)) | (rw [n0]; (try cbv)) | ((refine callB (hG _ _ _ h37) ?_; intro b hb; subst hb); (try cbv)) | (rw [n1]; (try cbv)) | fail)
        rw [hr]
    · rw [if_pos (by simpa using h1)]
      have h1' : repE l o w = 1 := by
        unfold repE at h1 ⊢
        split at h1
        · exact absurd rfl h1
        · rename_i h; rw [if_neg h]
      rw [decide_eq_false h1] at h37
      rw [h1']
      clear hx ht
      refine start c38 rfl ?_
      intro r' hr G hG hGW lt le eq add sub mul quo rem conv strEq strLt strCat strLen strAt strCut bytes ofBytes len nth cut fits app rep setEl look upd ne strNe H
      have n0 : ne 0 0 = false := by rw [H.ne]; rfl
      (try cbv)
      repeat' (first | ((refine callI (hG _ _ _ h22) ?_; intro b hb; subst hb); (try cbv)) | (rw [n0]; (try cbv)) | ((refine callB (hG _ _ _ h37) ?_; intro b hb; subst hb); (try cbv)) | fail)
      rw [hr]
  · rw [if_pos (by simpa using h0)]
    generalize ruledE nums names nots sw = c at h22 h0 ⊢
    clear hx ht
    refine start c38 rfl ?_
    intro r' hr G hG hGW lt le eq add sub mul quo rem conv strEq strLt strCat strLen strAt strCut bytes ofBytes len nth cut fits app rep setEl look upd ne strNe H
    have n1 : ne c 0 = true := by rw [H.ne]; simpa using h0
    (try cbv)
    repeat' (first | ((refine callI (hG _ _ _ h22) ?_; intro b hb; subst hb); (try cbv)) | (rw [n1]; (try cbv)) | fail)
    rw [hr]
def readyB (nums : List Num) (names : List (List ByteArray)) (nots : List ByteArray) (sw : List Swp) (l : List Sd) (o w : Int) (rq : List Rq) : Bool :=
  thin nums names nots sw.length && (few l rq && decide (decE nums names nots sw l o w rq.length = 0))
theorem thinT {nums : List Num} {names : List (List ByteArray)} {nots : List ByteArray} {n : Nat} (h : thin nums names nots n = true) : LexThin nums names nots ∧ n ≤ 25 := by
  simp only [thin, thin1, thin2, shortL, Bool.and_eq_true, List.all_eq_true, decide_eq_true_eq] at h
  exact ⟨⟨h.2.2.1, h.2.2.2.1, by have := h.2.2.2.2.1.2; omega, fun l hl => by have := (h.2.1 l hl).2; omega⟩, h.2.2.2.2.2⟩
theorem few_small {l : List Sd} {rq : List Rq} (h : few l rq = true) : l.length ≤ 85 ∧ rq.length ≤ 25 ∧ (∀ q ∈ rq, q.put.length ≤ 12) ∧ (∀ x ∈ l, x.t.size ≤ 40) := by
  simp only [few, few1, few2, shortL, Bool.and_eq_true, List.all_eq_true, decide_eq_true_eq] at h
  exact ⟨h.2.2.1, h.2.2.2, fun q hq => by have := (h.2.1 q hq).2; omega, h.1⟩
theorem g30 {nums names nots e1 e2 e3 sw se l we rq qe} (hx : AskIn nums names nots e1 e2 e3 sw se l we rq qe) (o w : Int) :
    GG 30 [(true, [.row 2 e1, .row 1 e2, .row 1 e3]), (false, [.row 3 se]), (true, [.row 2 we, .int .i64 o, .int .i64 w]), (false, [.row 5 qe])] (.one (false, [.bool (readyB nums names nots sw l o w rq)])) := by
  have hls : se.length = sw.length := map_len hx.hse
  have h15 := g15 nums names nots 3 e1 e2 e3 se hx.lex.he1 hx.lex.he2 hx.lex.he3 hx.lex.hm1 hx.lex.hm2 hx.lex.hm3.1 (fun x h => (hx.lex.hm4 x h).1)
  have h35 := g35 l we hx.he hx.hl o w rq qe hx.hq hx.hql (fun q hq => (hx.hqs q hq).hp)
  rw [readyB]
  rw [hls] at h15
  cases c1 : thin nums names nots sw.length
  · rw [c1] at h15
    clear hx
    refine start c30 rfl ?_
    intro r' hr G hG hGW lt le eq add sub mul quo rem conv strEq strLt strCat strLen strAt strCut bytes ofBytes len nth cut fits app rep setEl look upd ne strNe H
    (try cbv)
    repeat' (first | ((refine callB (hG _ _ _ h15) ?_; intro b hb; subst hb); (try cbv)) | fail)
    rw [hr]; rfl
  cases c2 : few l rq
  · rw [c1] at h15
    rw [c2] at h35
    clear hx
    refine start c30 rfl ?_
    intro r' hr G hG hGW lt le eq add sub mul quo rem conv strEq strLt strCat strLen strAt strCut bytes ofBytes len nth cut fits app rep setEl look upd ne strNe H
    (try cbv)
    repeat' (first | ((refine callB (hG _ _ _ h15) ?_; intro b hb; subst hb); (try cbv)) | ((refine callB (hG _ _ _ h35) ?_; intro b hb; subst hb); (try cbv)) | fail)
    rw [hr]; rfl
  have h38 := g38 hx (thinT c1).1 o w
  rw [c1] at h15
  rw [c2] at h35
  generalize decE nums names nots sw l o w rq.length = c at h38 ⊢
  clear hx
  refine start c30 rfl ?_
  intro r' hr G hG hGW lt le eq add sub mul quo rem conv strEq strLt strCat strLen strAt strCut bytes ofBytes len nth cut fits app rep setEl look upd ne strNe H
  rw [← H.eq] at hr
  (try cbv)
  repeat' (first | ((refine callB (hG _ _ _ h15) ?_; intro b hb; subst hb); (try cbv)) | ((refine callB (hG _ _ _ h35) ?_; intro b hb; subst hb); (try cbv)) | ((refine callI (hG _ _ _ h38) ?_; intro b hb; subst hb); (try cbv)) | fail)
  rw [hr]; rfl
end Go.Vi
namespace Go.Vi
open Go.Proofs
set_option maxRecDepth 100000
theorem cells48 : Tryz.prog.cellsOf 48 = 3 := by kernel_rfl
theorem cells74 : Tryz.prog.cellsOf 74 = 2 := by kernel_rfl
theorem cells73 : Tryz.prog.cellsOf 73 = 5 := by kernel_rfl
theorem all2_one {α β : Type} {R : α → β → Prop} {a : α} {l : List β} (h : All2 R [a] l) : ∃ x, l = [x] ∧ R a x := by
  match l, h with
  | [x], h => exact ⟨x, rfl, h.1⟩
theorem all2_four {α β : Type} {R : α → β → Prop} {a b c d : α} {l : List β} (h : All2 R [a, b, c, d] l) : ∃ x y z u, l = [x, y, z, u] ∧ R a x ∧ R b y ∧ R c z ∧ R d u := by
  match l, h with
  | [x, y, z, u], h => exact ⟨x, y, z, u, rfl, h.1, h.2.1, h.2.2.1, h.2.2.2.1⟩
theorem all2_five {α β : Type} {R : α → β → Prop} {a b c d e : α} {l : List β} (h : All2 R [a, b, c, d, e] l) : ∃ x y z u v, l = [x, y, z, u, v] ∧ R a x ∧ R b y ∧ R c z ∧ R d u ∧ R e v := by
  match l, h with
  | [x, y, z, u, v], h => exact ⟨x, y, z, u, v, rfl, h.1, h.2.1, h.2.2.1, h.2.2.2.1, h.2.2.2.2.1⟩
theorem all2_six {α β : Type} {R : α → β → Prop} {a b c d e f : α} {l : List β} (h : All2 R [a, b, c, d, e, f] l) : ∃ x y z u v t, l = [x, y, z, u, v, t] ∧ R a x ∧ R b y ∧ R c z ∧ R d u ∧ R e v ∧ R f t := by
  match l, h with
  | [x, y, z, u, v, t], h => exact ⟨x, y, z, u, v, t, rfl, h.1, h.2.1, h.2.2.1, h.2.2.2.1, h.2.2.2.2.1, h.2.2.2.2.2.1⟩
theorem hasU8 {n : Nat} {c : List D} (h : HasT Tryz.prog (n + 1) 5 c) : ∃ m, c = [.int .u8 m] ∧ (Lit.int .u8 m).wf = true := by
  simp only [HasT, Tryz.underlying5] at h
  exact h
theorem wf_i64 {m : Int} (h : (Lit.int .i64 m).wf = true) : -9223372036854775808 ≤ m ∧ m < 9223372036854775808 := by
  have h2 : IntKind.i64.min ≤ m ∧ m ≤ IntKind.i64.max := by simpa only [Lit.wf, Bool.and_eq_true, decide_eq_true_eq] using h
  have h3 : IntKind.i64.min = -9223372036854775808 := by decide
  have h4 : IntKind.i64.max = 9223372036854775807 := by decide
  omega
theorem wf_u8 {m : Int} (h : (Lit.int .u8 m).wf = true) : 0 ≤ m ∧ m < 256 := by
  have h2 : IntKind.u8.min ≤ m ∧ m ≤ IntKind.u8.max := by simpa only [Lit.wf, Bool.and_eq_true, decide_eq_true_eq] using h
  have h3 : IntKind.u8.min = 0 := by decide
  have h4 : IntKind.u8.max = 255 := by decide
  omega
theorem hasSwp {n : Nat} {c : List D} (h : HasT Tryz.prog (n + 2) 48 c) : ∃ x : Swp, c = [.int .u8 x.k, .int .i64 x.o, .int .i64 x.n] ∧ True := by
  rw [HasT, Tryz.underlying48] at h
  obtain ⟨parts, rfl, h1⟩ := h
  obtain ⟨p, q, r, rfl, h2, h3, h4⟩ := all2_three h1
  obtain ⟨k, rfl, _⟩ := hasU8 h2
  obtain ⟨o, rfl, _⟩ := hasInt h3
  obtain ⟨m, rfl, _⟩ := hasInt h4
  exact ⟨⟨k, o, m⟩, rfl, trivial⟩
theorem hasSwaps {n : Nat} {ds : List D} (h : HasT Tryz.prog (n + 3) 27 ds) : ∃ l es, ds = [.row 3 es] ∧ swE l es ∧ l.length ≤ maxLen := by
  rw [HasT, Tryz.underlying27] at h
  obtain ⟨es, rfl, h1, h2⟩ := h
  rw [cells48]
  obtain ⟨l, hl, _⟩ := list_enc (enc := fun x : Swp => [D.int .u8 x.k, .int .i64 x.o, .int .i64 x.n]) (Q := fun _ => True) fun c hc => hasSwp (h2 c hc).2
  refine ⟨l, es, rfl, hl, ?_⟩
  rw [hl] at h1
  simpa using h1
theorem hasSd {n : Nat} {c : List D} (h : HasT Tryz.prog (n + 2) 74 c) : ∃ x : Sd, c = [.str x.t, .int .i64 x.sp] ∧ x.t.size ≤ maxLen := by
  rw [HasT, Tryz.underlying74] at h
  obtain ⟨parts, rfl, h1⟩ := h
  obtain ⟨p, q, rfl, h2, h3⟩ := all2_two h1
  obtain ⟨s, rfl, hs⟩ := hasStr h2
  obtain ⟨m, rfl, _⟩ := hasInt h3
  exact ⟨⟨s, m⟩, rfl, hs⟩
theorem hasSds {n : Nat} {ds : List D} (h : HasT Tryz.prog (n + 3) 66 ds) : ∃ l es, ds = [.row 2 es] ∧ sdE l es ∧ l.length ≤ maxLen ∧ ∀ x ∈ l, x.t.size ≤ maxLen := by
  rw [HasT, Tryz.underlying66] at h
  obtain ⟨es, rfl, h1, h2⟩ := h
  rw [cells74]
  obtain ⟨l, hl, hq⟩ := list_enc (enc := fun x : Sd => [D.str x.t, .int .i64 x.sp]) (Q := fun x => x.t.size ≤ maxLen) fun c hc => hasSd (h2 c hc).2
  refine ⟨l, es, rfl, hl, ?_, hq⟩
  rw [hl] at h1
  simpa using h1
theorem hasRep {n : Nat} {ds : List D} (h : HasT Tryz.prog (n + 4) 68 ds) : ∃ l es o w, ds = [.row 2 es, .int .i64 o, .int .i64 w] ∧ sdE l es ∧ l.length ≤ maxLen ∧ (∀ x ∈ l, x.t.size ≤ maxLen) ∧ I64 o ∧ I64 w := by
  rw [HasT, Tryz.underlying68] at h
  obtain ⟨parts, rfl, h1⟩ := h
  obtain ⟨p, q, r, rfl, h2, h3, h4⟩ := all2_three h1
  obtain ⟨l, es, rfl, a1, a2, a3⟩ := hasSds h2
  obtain ⟨o, rfl, b1⟩ := hasInt h3
  obtain ⟨w, rfl, b2⟩ := hasInt h4
  exact ⟨l, es, o, w, rfl, a1, a2, a3, wf_i64 b1, wf_i64 b2⟩
/-- A request's numbers are those of int. -/
structure RqNum (q : Rq) : Prop where
  hb : I64 q.by'
  hm : I64 q.minute
  hf : I64 q.frm
  hc : I64 q.cut
theorem hasRq {n : Nat} {c : List D} (h : HasT Tryz.prog (n + 3) 73 c) : ∃ x : Rq, c = rqD x ∧ RqIn x ∧ RqNum x := by
  rw [HasT, Tryz.underlying73] at h
  obtain ⟨parts, rfl, h1⟩ := h
  obtain ⟨p1, p2, p3, p4, p5, rfl, h2, h3, h4, h5, h6⟩ := all2_five h1
  obtain ⟨b, rfl, w1⟩ := hasInt h2
  obtain ⟨m, rfl, w2⟩ := hasInt h3
  obtain ⟨f, rfl, w3⟩ := hasInt h4
  obtain ⟨c, rfl, w4⟩ := hasInt h5
  obtain ⟨p, pe, rfl, hp, hs⟩ := hasTexts h6
  refine ⟨⟨b, m, f, c, p⟩, ?_, ⟨(wf_i64 w4).2, hs⟩, ⟨wf_i64 w1, wf_i64 w2, wf_i64 w3, wf_i64 w4⟩⟩
  rw [show pe = p.map fun s => [D.str s] from hp]
  rfl
theorem hasRqs {n : Nat} {ds : List D} (h : HasT Tryz.prog (n + 4) 69 ds) : ∃ l es, ds = [.row 5 es] ∧ rqE l es ∧ l.length ≤ maxLen ∧ (∀ q ∈ l, RqIn q) ∧ ∀ q ∈ l, RqNum q := by
  rw [HasT, Tryz.underlying69] at h
  obtain ⟨es, rfl, h1, h2⟩ := h
  rw [cells73]
  obtain ⟨l, hl, hq⟩ := list_enc (enc := rqD) (Q := fun x => RqIn x ∧ RqNum x) fun c hc => hasRq (h2 c hc).2
  refine ⟨l, es, rfl, hl, ?_, fun q h => (hq q h).1, fun q h => (hq q h).2⟩
  rw [hl] at h1
  simpa using h1
theorem swapsArg : argT Tryz.prog 27 = false := by kernel_rfl
theorem repArg : argT Tryz.prog 68 = true := by kernel_rfl
theorem rqsArg : argT Tryz.prog 69 = false := by kernel_rfl
theorem u8Arg : argT Tryz.prog 5 = false := by kernel_rfl
theorem swpArg : argT Tryz.prog 48 = true := by kernel_rfl
/-- What a law about decisions is given. -/
theorem hasAsk {xs : List DV} (h : All2 (Typed Tryz.prog 6) [26, 27, 68, 69] xs) : ∃ nums names nots e1 e2 e3 sw se l we o w rq qe, xs = [(true, [.row 2 e1, .row 1 e2, .row 1 e3]), (false, [.row 3 se]), (true, [.row 2 we, .int .i64 o, .int .i64 w]), (false, [.row 5 qe])] ∧ AskIn nums names nots e1 e2 e3 sw se l we rq qe ∧ I64 o ∧ I64 w ∧ ∀ q ∈ rq, RqNum q := by
  obtain ⟨⟨b1, d1⟩, ⟨b2, d2⟩, ⟨b3, d3⟩, ⟨b4, d4⟩, rfl, ⟨h1, k1⟩, ⟨h2, k2⟩, ⟨h3, k3⟩, ⟨h4, k4⟩⟩ := all2_four h
  obtain ⟨nums, names, nots, e1, e2, e3, rfl, hx⟩ := hasLex h1
  obtain ⟨sw, se, rfl, hse, hsl⟩ := hasSwaps h2
  obtain ⟨l, we, o, w, rfl, he, hl, hls, ho, hw⟩ := hasRep h3
  obtain ⟨rq, qe, rfl, hq, hql, hqs, hqn⟩ := hasRqs h4
  dsimp only at k1 k2 k3 k4
  rw [k1, k2, k3, k4, lexArg, swapsArg, repArg, rqsArg]
  exact ⟨nums, names, nots, e1, e2, e3, sw, se, l, we, o, w, rq, qe, rfl, ⟨hx, hse, hsl, he, hl, hls, hq, hql, hqs⟩, ho, hw, hqn⟩
end Go.Vi
