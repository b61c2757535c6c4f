/-
  Contracts of comparisons.
-/
import Derived.Test.YtkjnedjjdmfpbaaGreatDoorP1
set_option linter.unusedVariables false
set_option linter.unusedSimpArgs false
set_option linter.unusedSectionVars false
namespace Go.Vi
open Go.Proofs
set_option maxRecDepth 100000
set_option linter.unusedVariables false
set_option linter.unusedSimpArgs false
theorem g21 (l : List ByteArray) (es : List (List D)) (he : txE l es) (hl : l.length ≤ 100000) : GG 21 [(false, [.row 1 es])] (.one (false, [.row 1 es])) := by
  have hlen : es.length = l.length := by rw [he]; simp
  refine start c21 rfl ?_
  intro r' hr G hG hGW lt le eq add sub mul quo rem conv strEq strLt strCat strLen strAt strCut bytes ofBytes len nth cut fits app rep setEl look upd ne strNe H
  have hf := H.fitsLe (n := 16) (es := es) (by omega) (by decide)
  have hf2 : ∀ cs ∈ es, cs.length = 1 := by rw [he]; simp
  (try cbv)
  repeat' (first | (refine ⟨hf, ?_⟩; (try cbv)) | (refine ⟨lenOne rfl, ?_⟩; (try cbv)) | (refine ⟨hf2, ?_⟩; (try cbv)) | (refine ⟨lenOne rfl, ?_⟩; (try cbv)) | fail)
  rw [hr]
theorem g20 (l : List Swp) (es : List (List D)) (he : swE l es) (hl : l.length ≤ 100000) : GG 20 [(false, [.row 3 es])] (.one (false, [.row 3 es])) := by
  have hl' : l.length ≤ maxLen := Nat.le_trans hl (by decide)
  refine start c20 rfl ?_
  intro r' hr G hG hGW lt le eq add sub mul quo rem conv strEq strLt strCat strLen strAt strCut bytes ofBytes len nth cut fits app rep setEl look upd ne strNe H
  obtain ⟨A, hA⟩ : ∃ A : Nat → List (List D), ∀ k, A k = ((l.take k).map fun x => [.int .u8 x.k, .int .i64 x.o, .int .i64 x.n]) := ⟨_, fun _ => rfl⟩
  cbv
  obtain ⟨N, hN⟩ : ∃ N, N = l.length := ⟨_, rfl⟩
  obtain ⟨P, hP⟩ : ∃ P : Nat → Prop, ∀ k, P k = (True) := ⟨_, fun _ => rfl⟩
  refine loopV N (fun k => [(0, .v false [.d (.row 3 es)]), (3, .v false [.own 1]), (4, .v false [.d (.int .i64 (Int.ofNat k))])]) (fun k => [(0, .arr 109 3 []), (1, .arr 109 3 (A k))]) P ?_ ?_ ?_
  · rw [hA 0]; exact ⟨rfl, rfl⟩
  · rw [hP]; trivial
  · intro k hk _
    rw [hN] at hk
    rcases hd : l.drop k with _ | ⟨x, r⟩
    · have h1 := H.rowNil he hd hk
      (try cbv)
      repeat' (first | (rw [h1]; (try cbv)) | (split <;> rename_i heq <;> (try rw [heq]) <;> (try cbv)) | fail)
      rw [hr, hA, drop_nil hd hk, List.take_length, he]
    · obtain ⟨h1, h2, h3, h4, h5⟩ := H.rowCons he hl' hd
      have h6 : ∀ x, fits 24 (app (A k) [x]) = true := fun x => H.fitsLe (by rw [H.app, hA]; simp; omega) (by decide)
      (try cbv)
      repeat' (first | (rw [h1]; (try cbv)) | (rw [h2]; (try cbv)) | (refine ⟨(h6 _), ?_⟩; (try cbv)) | (refine ⟨lenOne rfl, ?_⟩; (try cbv)) | fail)
      exact ⟨by rw [hN]; exact h5, by rw [hP]; trivial, by rw [h3], by rw [H.app, hA, hA, take_step _ hd]⟩
def nsE (l : List (List ByteArray)) (es : List (List D)) : Prop := es = l.map fun x => [.row 1 (x.map fun s => [.str s])]
structure Num where
  t : ByteArray
  v : Int
structure Lx where
  nums : List Num
  names : List (List ByteArray)
  nots : List ByteArray
def nuE (l : List Num) (es : List (List D)) : Prop := es = l.map fun x => [.str x.t, .int .i64 x.v]
def lxE (x : Lx) (ds : List D) : Prop := ∃ e1 e2 e3, nuE x.nums e1 ∧ nsE x.names e2 ∧ txE x.nots e3 ∧ ds = [.row 2 e1, .row 1 e2, .row 1 e3]
def Lx.small (x : Lx) : Prop := x.nums.length ≤ 100000 ∧ x.names.length ≤ 100000 ∧ x.nots.length ≤ 100000 ∧ ∀ l ∈ x.names, l.length ≤ 100000
theorem g19 (x : Lx) (ds : List D) (he : lxE x ds) (hs : x.small) : GG 19 [(true, ds)] (.one (true, ds)) := by
  obtain ⟨e1, e2, e3, he1, he2, he3, rfl⟩ := he
  obtain ⟨nums, names, nots⟩ := x
  obtain ⟨hs1, hs2, hs3, hs4⟩ := hs
  dsimp only at he1 he2 he3 hs1 hs2 hs3 hs4
  have hm1 : nums.length ≤ maxLen := Nat.le_trans hs1 (by decide)
  have hm2 : names.length ≤ maxLen := Nat.le_trans hs2 (by decide)
  have hs5 : e1.length ≤ 100000 ∧ e2.length ≤ 100000 := by rw [he1, he2]; simpa using ⟨hs1, hs2⟩
  refine start c19 rfl ?_
  intro r' hr G hG hGW lt le eq add sub mul quo rem conv strEq strLt strCat strLen strAt strCut bytes ofBytes len nth cut fits app rep setEl look upd ne strNe H
  obtain ⟨A, hA⟩ : ∃ A : Nat → List (List D), ∀ k, A k = ((nums.take k).map fun x => [.str x.t, .int .i64 x.v]) := ⟨_, fun _ => rfl⟩
  (try cbv)
  repeat' (first | (refine callRow (hG _ _ _ (g21 nots e3 he3 hs3)) ?_; intro b21 hb21; (try cbv)) | fail)
  subst hb21
  obtain ⟨N, hN⟩ : ∃ N, N = nums.length := ⟨_, rfl⟩
  obtain ⟨P, hP⟩ : ∃ P : Nat → Prop, ∀ k, P k = (True) := ⟨_, fun _ => rfl⟩
  refine loopV N (fun k => [(1, .v false [.loc 0 0]), (2, .v false [.loc 1 0]), (3, .v false [.loc 7 0]), (4, .v false [.d (.int .i64 (Int.ofNat k))])]) (fun k => [(0, .blk [.d (.row 2 e1), .d (.row 1 e2), .d (.row 1 b21)]), (1, .blk [.own 2, .own 3, .own 4]), (2, .arr 123 2 []), (3, .arr 24 1 []), (4, .arr 9 1 []), (5, .arr 123 2 (A k)), (6, .arr 24 1 ([])), (7, .blk [.own 5, .own 6, .d (.row 1 b21)]), (8, .arr 123 2 []), (9, .arr 24 1 []), (10, .arr 9 1 [])]) P ?_ ?_ ?_
  · rw [hA 0]; exact ⟨rfl, rfl⟩
  · rw [hP]; trivial
  · intro k hk _
    rw [hN] at hk
    rcases hd : nums.drop k with _ | ⟨x, r⟩
    · have h1 := H.rowNil he1 hd hk
      have hAk : A k = e1 := by rw [hA, drop_nil hd hk, List.take_length, he1]
      rw [hAk]
      (try cbv)
      repeat' (first | (rw [h1]; (try cbv)) | fail)
      obtain ⟨A2, hA2⟩ : ∃ A : Nat → List (List D), ∀ k, A k = ((names.take k).map fun x => [.row 1 (x.map fun s => [.str s])]) := ⟨_, fun _ => rfl⟩
      obtain ⟨N, hN⟩ : ∃ N, N = names.length := ⟨_, rfl⟩
      obtain ⟨P, hP⟩ : ∃ P : Nat → Prop, ∀ k, P k = (True) := ⟨_, fun _ => rfl⟩
      refine loopV N (fun k => [(1, .v false [.loc 0 0]), (2, .v false [.loc 1 0]), (3, .v false [.loc 7 0]), (5, .v false [.d (.int .i64 (Int.ofNat k))])]) (fun k => [(0, .blk [.d (.row 2 e1), .d (.row 1 e2), .d (.row 1 b21)]), (1, .blk [.own 2, .own 3, .own 4]), (2, .arr 123 2 []), (3, .arr 24 1 []), (4, .arr 9 1 []), (5, .arr 123 2 (e1)), (6, .arr 24 1 (A2 k)), (7, .blk [.own 5, .own 6, .d (.row 1 b21)]), (8, .arr 123 2 []), (9, .arr 24 1 []), (10, .arr 9 1 [])]) P ?_ ?_ ?_
      · rw [hA2 0]; exact ⟨rfl, rfl⟩
      · rw [hP]; trivial
      · intro k hk _
        rw [hN] at hk
        rcases hd : names.drop k with _ | ⟨x, r⟩
        · have h1 := H.rowNil he2 hd hk
          have hAk : A2 k = e2 := by rw [hA2, drop_nil hd hk, List.take_length, he2]
          rw [hAk]
          (try cbv)
          repeat' (first | (rw [h1]; (try cbv)) | fail)
          rw [hr]
        · obtain ⟨h1, h2, h3, h4, h5⟩ := H.rowCons he2 hm2 hd
          have h6 : ∀ x, fits 24 (app (A2 k) [x]) = true := fun x => H.fitsLe (by rw [H.app, hA2]; simp; omega) (by decide)
          have hx : x ∈ names := List.mem_of_getElem? (drop_cons hd).2.1
          obtain ⟨ex, hex⟩ : ∃ ex : List (List D), ex = x.map fun s => [.str s] := ⟨_, rfl⟩
          rw [← hex] at h2
          have hR := g21 x ex hex (hs4 x hx)
          (try cbv)
          repeat' (first | (rw [h1]; (try cbv)) | (rw [h2]; (try cbv)) | (refine callRow (hG _ _ _ hR) ?_; intro b hb; (try cbv)) | (refine ⟨(h6 _), ?_⟩; (try cbv)) | (refine ⟨lenOne rfl, ?_⟩; (try cbv)) | fail)
          exact ⟨by rw [hN]; exact h5, by rw [hP]; trivial, by rw [h3], by rw [H.app, hA2, hA2, take_step _ hd, hb, hex]⟩
    · obtain ⟨h1, h2, h3, h4, h5⟩ := H.rowCons he1 hm1 hd
      have h6 : ∀ x, fits 24 (app (A k) [x]) = true := fun x => H.fitsLe (by rw [H.app, hA]; simp; omega) (by decide)
      (try cbv)
      repeat' (first | (rw [h1]; (try cbv)) | (rw [h2]; (try cbv)) | (refine ⟨(h6 _), ?_⟩; (try cbv)) | (refine ⟨lenOne rfl, ?_⟩; (try cbv)) | fail)
      exact ⟨by rw [hN]; exact h5, by rw [hP]; trivial, by rw [h3], by rw [H.app, hA, hA, take_step _ hd]⟩
/-! ### lexica that are not too large -/
def thin2 (nums : List Num) (names : List (List ByteArray)) (nots : List ByteArray) (n : Nat) : Bool := decide (nums.length ≤ 45) && (decide (names.length ≤ 45) && (shortL nots 45 && decide (n ≤ 25)))
def thin1 (nums : List Num) (names : List (List ByteArray)) (nots : List ByteArray) (n : Nat) : Bool := names.all (fun l => shortL l 8) && thin2 nums names nots n
def thin (nums : List Num) (names : List (List ByteArray)) (nots : List ByteArray) (n : Nat) : Bool := nums.all (fun x => decide (x.t.size ≤ 40)) && thin1 nums names nots n
theorem g15 (nums : List Num) (names : List (List ByteArray)) (nots : List ByteArray) (z : Nat) (e1 e2 e3 es : List (List D)) (he1 : nuE nums e1) (he2 : nsE names e2) (he3 : txE nots e3) (hm1 : nums.length ≤ maxLen) (hm2 : names.length ≤ maxLen) (hm3 : nots.length ≤ maxLen) (hm4 : ∀ l ∈ names, l.length ≤ maxLen) :
    GG 15 [(true, [.row 2 e1, .row 1 e2, .row 1 e3]), (false, [.row z es])] (.one (false, [.bool (thin nums names nots es.length)])) := by
  have hl1 : e1.length = nums.length := by rw [he1]; simp
  have hl2 : e2.length = names.length := by rw [he2]; simp
  refine start c15 rfl ?_
  intro r' hr G hG hGW lt le eq add sub mul quo rem conv strEq strLt strCat strLen strAt strCut bytes ofBytes len nth cut fits app rep setEl look upd ne strNe H
  cbv
  obtain ⟨N, hN⟩ : ∃ N, N = nums.length := ⟨_, rfl⟩
  obtain ⟨P, hP⟩ : ∃ P : Nat → Prop, ∀ k, P k = (r' = .one (false, [.bool ((nums.drop k).all (fun x => decide (x.t.size ≤ 40)) && thin1 nums names nots es.length)])) := ⟨_, fun _ => rfl⟩
  refine loopU N (fun k => [(1, .v false [.d (.row z es)]), (2, .v false [.loc 0 0]), (5, .v false [.d (.int .i64 (Int.ofNat k))])]) [(0, .blk [.d (.row 2 e1), .d (.row 1 e2), .d (.row 1 e3)])] P ⟨rfl, rfl⟩ ?_ ?_
  · rw [hP]; exact hr
  · intro k hk hr
    rw [hN] at hk
    rw [hP] at hr
    have key : (r' = .one (false, [.bool (thin1 nums names nots es.length)]) ∧ (lt (Int.ofNat k) (len e1) = false ∨ (lt (Int.ofNat k) (len e1) = true ∧ lt (Int.ofNat k) 46 = false))) ∨ (∃ x r, nums.drop k = x :: r ∧ lt (Int.ofNat k) 46 = true) := by
      rcases hd : nums.drop k with _ | ⟨x, r⟩
      · exact .inl ⟨by rw [hr, hd]; rfl, .inl (H.rowNil he1 hd hk)⟩
      · obtain ⟨h1, h2, h3, h4, h5⟩ := H.rowCons he1 hm1 hd
        cases h46 : lt (Int.ofNat k) 46
        · rw [H.lt, decide_eq_false_iff_not] at h46
          refine .inl ⟨?_, .inr ⟨h1, rfl⟩⟩
          have : thin1 nums names nots es.length = false := by
            unfold thin1 thin2
            rw [decide_eq_false (p := nums.length ≤ 45) (by simp at h46; omega)]
            simp
          rw [hr, this, Bool.and_false]
        · exact .inr ⟨x, r, rfl, rfl⟩
    rcases key with ⟨hr, hx⟩ | ⟨x, r, hd, h46⟩
    · rcases hx with hx | ⟨hx, hy⟩
      case' inr => (try cbv)
                   repeat' (first | (rw [hx]; (try cbv)) | (rw [hy]; (try cbv)) | fail)
      case' inl => (try cbv)
                   repeat' (first | (rw [hx]; (try cbv)) | fail)
      all_goals
        obtain ⟨N, hN⟩ : ∃ N, N = names.length := ⟨_, rfl⟩
        obtain ⟨P, hP⟩ : ∃ P : Nat → Prop, ∀ k, P k = (r' = .one (false, [.bool ((names.drop k).all (fun l => shortL l 8) && thin2 nums names nots es.length)])) := ⟨_, fun _ => rfl⟩
        refine loopU N (fun k => [(1, .v false [.d (.row z es)]), (2, .v false [.loc 0 0]), (6, .v false [.d (.int .i64 (Int.ofNat k))])]) [(0, .blk [.d (.row 2 e1), .d (.row 1 e2), .d (.row 1 e3)])] P ⟨rfl, rfl⟩ ?_ ?_
        · rw [hP]; exact hr
        · intro k hk hr
          rw [hN] at hk
          rw [hP] at hr
          have key : (r' = .one (false, [.bool (thin2 nums names nots es.length)]) ∧ (lt (Int.ofNat k) (len e2) = false ∨ (lt (Int.ofNat k) (len e2) = true ∧ lt (Int.ofNat k) 46 = false))) ∨ (∃ x r, names.drop k = x :: r ∧ lt (Int.ofNat k) 46 = true) := by
            rcases hd : names.drop k with _ | ⟨x, r⟩
            · exact .inl ⟨by rw [hr, hd]; rfl, .inl (H.rowNil he2 hd hk)⟩
            · obtain ⟨h1, h2, h3, h4, h5⟩ := H.rowCons he2 hm2 hd
              cases h46 : lt (Int.ofNat k) 46
              · rw [H.lt, decide_eq_false_iff_not] at h46
                refine .inl ⟨?_, .inr ⟨h1, rfl⟩⟩
                have : thin2 nums names nots es.length = false := by
                  unfold thin2
                  rw [decide_eq_false (p := names.length ≤ 45) (by simp at h46; omega)]
                  simp
                rw [hr, this, Bool.and_false]
              · exact .inr ⟨x, r, rfl, rfl⟩
          rcases key with ⟨hr, hx⟩ | ⟨x, r, hd, h46⟩
          · have hr : r' = .one (false, [.bool (le (len e1) 45 && (le (len e2) 45 && (shortL nots 45 && le (len es) 25)))]) := by
              rw [hr, thin2, H.len, H.len, H.len, hl1, hl2, H.leK (c := 45) _ 45 rfl, H.leK (c := 45) _ 45 rfl, H.leK (c := 25) _ 25 rfl]
            have hS := g16 nots e3 he3 hm3 45
            generalize shortL nots 45 = c at hr hS
            rcases hx with hx | ⟨hx, hy⟩
            case' inr => (try cbv)
                         repeat' (first | (rw [hx]; (try cbv)) | (rw [hy]; (try cbv)) | fail)
            case' inl => (try cbv)
                         repeat' (first | (rw [hx]; (try cbv)) | fail)
            all_goals
              cases hc1 : le (len e1) 45 <;> cases hc2 : le (len e2) 45 <;> rw [hc1, hc2] at hr
              all_goals
                (try cbv)
                repeat' (first | (rw [hc1]; (try cbv)) | (rw [hc2]; (try cbv)) | (refine callB (hG _ _ _ hS) ?_; intro b hb; subst hb; cases b <;> (try cbv); (try cbv)) | fail)
                all_goals (rw [hr]; rfl)
          · obtain ⟨h1, h2, h3, h4, h5⟩ := H.rowCons he2 hm2 hd
            rw [hd, List.all_cons] at hr
            have hx : x ∈ names := List.mem_of_getElem? (drop_cons hd).2.1
            obtain ⟨ex, hex⟩ : ∃ ex : List (List D), ex = x.map fun s => [.str s] := ⟨_, rfl⟩
            rw [← hex] at h2
            have hS := g16 x ex hex (hm4 x hx) 8
            generalize shortL x 8 = c at hr hS
            (try cbv)
            repeat' (first | (rw [h1]; (try cbv)) | (rw [h46]; (try cbv)) | (rw [h2]; (try cbv)) | (refine callB (hG _ _ _ hS) ?_; intro b hb; subst hb; cases b <;> (try cbv); (try cbv)) | fail)
            · rw [hr]; rfl
            · exact ⟨by rw [hN]; exact h5, by rw [hP, h4, hr]; rfl, by rw [h3], trivial⟩
    · obtain ⟨h1, h2, h3, h4, h5⟩ := H.rowCons he1 hm1 hd
      rw [hd, List.all_cons] at hr
      (try cbv)
      repeat' (first | (rw [h1]; (try cbv)) | (rw [h46]; (try cbv)) | (rw [h2]; (try cbv)) | (split <;> rename_i heq <;> (try rw [heq]) <;> (try cbv)) | fail)
      all_goals (rw [H.lt, H.strLen] at heq; simp only [decide_eq_true_eq, decide_eq_false_iff_not] at heq)
      · rw [hr, decide_eq_false (by omega)]; rfl
      · exact ⟨by rw [hN]; exact h5, by rw [hP, h4, hr, decide_eq_true (by omega)]; rfl, by rw [h3], trivial⟩

structure Sd where
  t : ByteArray
  sp : Int
structure Rp where
  words : List Sd
  out : Int
  within : Int
structure Rq where
  by' : Int
  minute : Int
  frm : Int
  cut : Int
  put : List ByteArray
def sdE (l : List Sd) (es : List (List D)) : Prop := es = l.map fun x => [.str x.t, .int .i64 x.sp]
def putD (l : List ByteArray) : D := .row 1 (l.map fun s => [.str s])
def rqD (q : Rq) : List D := [.int .i64 q.by', .int .i64 q.minute, .int .i64 q.frm, .int .i64 q.cut, putD q.put]
def rqE (l : List Rq) (es : List (List D)) : Prop := es = l.map rqD
theorem g31 (l : List Sd) (es : List (List D)) (he : sdE l es) (hl : l.length ≤ 100000) (o w : Int) : GG 31 [(true, [.row 2 es, .int .i64 o, .int .i64 w])] (.one (true, [.row 2 es, .int .i64 o, .int .i64 w])) := by
  have hl' : l.length ≤ maxLen := Nat.le_trans hl (by decide)
  refine start c31 rfl ?_
  intro r' hr G hG hGW lt le eq add sub mul quo rem conv strEq strLt strCat strLen strAt strCut bytes ofBytes len nth cut fits app rep setEl look upd ne strNe H
  obtain ⟨A, hA⟩ : ∃ A : Nat → List (List D), ∀ k, A k = ((l.take k).map fun x => [.str x.t, .int .i64 x.sp]) := ⟨_, fun _ => rfl⟩
  cbv
  obtain ⟨N, hN⟩ : ∃ N, N = l.length := ⟨_, rfl⟩
  obtain ⟨P, hP⟩ : ∃ P : Nat → Prop, ∀ k, P k = (True) := ⟨_, fun _ => rfl⟩
  refine loopV N (fun k => [(1, .v false [.loc 0 0]), (2, .v false [.loc 1 0]), (3, .v false [.loc 4 0]), (4, .v false [.d (.int .i64 (Int.ofNat k))])]) (fun k => [(0, .blk [.d (.row 2 es), .d (.int .i64 o), .d (.int .i64 w)]), (1, .blk [.own 2, .d (.int .i64 0), .d (.int .i64 0)]), (2, .arr 58 2 []), (3, .arr 58 2 (A k)), (4, .blk [.own 3, .d (.int .i64 o), .d (.int .i64 w)]), (5, .arr 58 2 [])]) P ?_ ?_ ?_
  · rw [hA 0]; exact ⟨rfl, rfl⟩
  · rw [hP]; trivial
  · intro k hk _
    rw [hN] at hk
    rcases hd : l.drop k with _ | ⟨x, r⟩
    · have h1 := H.rowNil he hd hk
      (try cbv)
      repeat' (first | (rw [h1]; (try cbv)) | fail)
      rw [hr, hA, drop_nil hd hk, List.take_length, he]
    · obtain ⟨h1, h2, h3, h4, h5⟩ := H.rowCons he hl' hd
      have h6 : ∀ x, fits 24 (app (A k) [x]) = true := fun x => H.fitsLe (by rw [H.app, hA]; simp; omega) (by decide)
      (try cbv)
      repeat' (first | (rw [h1]; (try cbv)) | (rw [h2]; (try cbv)) | (refine ⟨(h6 _), ?_⟩; (try cbv)) | (refine ⟨lenOne rfl, ?_⟩; (try cbv)) | fail)
      exact ⟨by rw [hN]; exact h5, by rw [hP]; trivial, by rw [h3], by rw [H.app, hA, hA, take_step _ hd]⟩
theorem g32 (l : List Rq) (es : List (List D)) (he : rqE l es) (hl : l.length ≤ 100000) (hp : ∀ q ∈ l, q.put.length ≤ 100000) : GG 32 [(false, [.row 5 es])] (.one (false, [.row 5 es])) := by
  have hl' : l.length ≤ maxLen := Nat.le_trans hl (by decide)
  refine start c32 rfl ?_
  intro r' hr G hG hGW lt le eq add sub mul quo rem conv strEq strLt strCat strLen strAt strCut bytes ofBytes len nth cut fits app rep setEl look upd ne strNe H
  obtain ⟨A, hA⟩ : ∃ A : Nat → List (List D), ∀ k, A k = ((l.take k).map rqD) := ⟨_, fun _ => rfl⟩
  cbv
  obtain ⟨N, hN⟩ : ∃ N, N = l.length := ⟨_, rfl⟩
  obtain ⟨P, hP⟩ : ∃ P : Nat → Prop, ∀ k, P k = (True) := ⟨_, fun _ => rfl⟩
  refine loopV N (fun k => [(0, .v false [.d (.row 5 es)]), (3, .v false [.own 1]), (4, .v false [.d (.int .i64 (Int.ofNat k))])]) (fun k => [(0, .arr 63 5 []), (1, .arr 63 5 (A k))]) P ?_ ?_ ?_
  · rw [hA 0]; exact ⟨rfl, rfl⟩
  · rw [hP]; trivial
  · intro k hk _
    rw [hN] at hk
    rcases hd : l.drop k with _ | ⟨x, r⟩
    · have h1 := H.rowNil he hd hk
      (try cbv)
      repeat' (first | (rw [h1]; (try cbv)) | (split <;> rename_i heq <;> (try rw [heq]) <;> (try cbv)) | fail)
      rw [hr, hA, drop_nil hd hk, List.take_length, he]
    · obtain ⟨h1, h2, h3, h4, h5⟩ := H.rowCons he hl' hd
      have h6 : ∀ x, fits 56 (app (A k) [x]) = true := fun x => H.fitsLe (by rw [H.app, hA]; simp; omega) (by decide)
      obtain ⟨xb, xm, xf, xc, xp⟩ := x
      obtain ⟨ex, hex⟩ : ∃ ex : List (List D), ex = xp.map fun s => [.str s] := ⟨_, rfl⟩
      have hx : xp.length ≤ 100000 := hp _ (List.mem_of_getElem? (drop_cons hd).2.1)
      have h2 : nth es (Int.ofNat k) = some [.int .i64 xb, .int .i64 xm, .int .i64 xf, .int .i64 xc, .row 1 ex] := by rw [h2, rqD, putD, ← hex]
      have hR := g21 xp ex hex hx
      (try cbv)
      repeat' (first | (rw [h1]; (try cbv)) | (rw [h2]; (try cbv)) | (refine callRow (hG _ _ _ hR) ?_; intro b hb; (try cbv)) | (refine ⟨(h6 _), ?_⟩; (try cbv)) | (refine ⟨lenOne rfl, ?_⟩; (try cbv)) | fail)
      exact ⟨by rw [hN]; exact h5, by rw [hP]; trivial, by rw [h3], by rw [H.app, hA, hA, take_step _ hd, rqD, putD, hb, hex]⟩
end Go.Vi
namespace Go.Vi
open Go.Proofs
set_option maxRecDepth 100000
set_option linter.unusedVariables false
set_option linter.unusedSimpArgs false
theorem map_len {α : Type} {f : α → List D} {l : List α} {es : List (List D)} (he : es = l.map f) : es.length = l.length := by rw [he]; simp
def inE (l : List Int) (es : List (List D)) : Prop := es = l.map fun x => [.int .i64 x]
theorem g41 (a b : List Mrk) (ea eb : List (List D)) (hea : mkE a ea) (heb : mkE b eb) (ha : a.length ≤ maxLen) (hb : b.length ≤ maxLen) :
    GG 41 [(false, [.row 2 ea]), (false, [.row 2 eb])] (.one (false, [.bool (decide (a = b))])) := by
  have hla := map_len hea
  have hlb := map_len heb
  refine start c41 rfl ?_
  intro r' hr G hG hGW lt le eq add sub mul quo rem conv strEq strLt strCat strLen strAt strCut bytes ofBytes len nth cut fits app rep setEl look upd ne strNe H
  cbv
  cases h0 : ne (len ea) (len eb)
  · have hlen : a.length = b.length := by
      rw [H.ne, H.len, H.len, hla, hlb] at h0
      simp at h0
      omega
    cbv
    obtain ⟨N, hN⟩ : ∃ N, N = a.length := ⟨_, rfl⟩
    obtain ⟨P, hP⟩ : ∃ P : Nat → Prop, ∀ k, P k = (r' = .one (false, [.bool (decide (a.drop k = b.drop k))])) := ⟨_, fun _ => rfl⟩
    refine loopU N (fun k => [(0, .v false [.d (.row 2 ea)]), (1, .v false [.d (.row 2 eb)]), (5, .v false [.d (.int .i64 (Int.ofNat k))])]) [] P ⟨rfl, rfl⟩ ?_ ?_
    · rw [hP]; exact hr
    · intro k hk hr
      rw [hN] at hk
      rw [hP] at hr
      rcases hd : a.drop k with _ | ⟨⟨xk, xv⟩, r⟩
      · have h1 := H.rowNil hea hd hk
        have hd2 : b.drop k = [] := by
          have := drop_nil hd hk
          exact List.drop_of_length_le (by omega)
        (try cbv)
        repeat' (first | (rw [h1]; (try cbv)) | (split <;> rename_i heq <;> (try rw [heq]) <;> (try cbv)) | fail)
        rw [hr, hd, hd2]
        rfl
      · obtain ⟨y, q, hd2⟩ := drop_both hlen hd
        obtain ⟨yk, yv⟩ := y
        obtain ⟨h1, h2, h3, h4, h5⟩ := H.rowCons hea ha hd
        obtain ⟨_, h2', _, h4', _⟩ := H.rowCons heb hb hd2
        rw [hd, hd2] at hr
        (try cbv)
        repeat' (first | (rw [h1]; (try cbv)) | (rw [h2]; (try cbv)) | (rw [h2']; (try cbv)) | (split <;> rename_i heq <;> (try rw [heq]) <;> (try cbv)) | fail)
        all_goals (clear hG; simp only [H.ne, H.strNe] at *)
        all_goals first | (rw [hr]; simp_all; done) | exact ⟨by rw [hN]; exact h5, by rw [hP, h4, h4', hr]; clear hP hN; simp_all, by rw [h3], trivial⟩
  · have hlen : a ≠ b := by
      rintro rfl
      rw [H.ne, H.len, H.len, hla, hlb] at h0
      simp at h0
    cbv
    rw [hr, decide_eq_false hlen]
theorem g46 (a b : List ByteArray) (ea eb : List (List D)) (hea : txE a ea) (heb : txE b eb) (ha : a.length ≤ maxLen) (hb : b.length ≤ maxLen) :
    GG 46 [(false, [.row 1 ea]), (false, [.row 1 eb])] (.one (false, [.bool (decide (a = b))])) := by
  have hla := map_len hea
  have hlb := map_len heb
  refine start c46 rfl ?_
  intro r' hr G hG hGW lt le eq add sub mul quo rem conv strEq strLt strCat strLen strAt strCut bytes ofBytes len nth cut fits app rep setEl look upd ne strNe H
  cbv
  cases h0 : ne (len ea) (len eb)
  · have hlen : a.length = b.length := by
      rw [H.ne, H.len, H.len, hla, hlb] at h0
      simp at h0
      omega
    cbv
    obtain ⟨N, hN⟩ : ∃ N, N = a.length := ⟨_, rfl⟩
    obtain ⟨P, hP⟩ : ∃ P : Nat → Prop, ∀ k, P k = (r' = .one (false, [.bool (decide (a.drop k = b.drop k))])) := ⟨_, fun _ => rfl⟩
    refine loopU N (fun k => [(0, .v false [.d (.row 1 ea)]), (1, .v false [.d (.row 1 eb)]), (5, .v false [.d (.int .i64 (Int.ofNat k))])]) [] P ⟨rfl, rfl⟩ ?_ ?_
    · rw [hP]; exact hr
    · intro k hk hr
      rw [hN] at hk
      rw [hP] at hr
      rcases hd : a.drop k with _ | ⟨x, r⟩
      · have h1 := H.rowNil hea hd hk
        have hd2 : b.drop k = [] := by
          have := drop_nil hd hk
          exact List.drop_of_length_le (by omega)
        (try cbv)
        repeat' (first | (rw [h1]; (try cbv)) | (split <;> rename_i heq <;> (try rw [heq]) <;> (try cbv)) | fail)
        rw [hr, hd, hd2]
        rfl
      · obtain ⟨y, q, hd2⟩ := drop_both hlen hd
        obtain ⟨h1, h2, h3, h4, h5⟩ := H.rowCons hea ha hd
        obtain ⟨_, h2', _, h4', _⟩ := H.rowCons heb hb hd2
        rw [hd, hd2] at hr
        (try cbv)
        repeat' (first | (rw [h1]; (try cbv)) | (rw [h2]; (try cbv)) | (rw [h2']; (try cbv)) | (split <;> rename_i heq <;> (try rw [heq]) <;> (try cbv)) | fail)
        all_goals (clear hG; simp only [H.ne, H.strNe] at *)
        all_goals first | (rw [hr]; simp_all; done) | exact ⟨by rw [hN]; exact h5, by rw [hP, h4, h4', hr]; clear hP hN; simp_all, by rw [h3], trivial⟩
  · have hlen : a ≠ b := by
      rintro rfl
      rw [H.ne, H.len, H.len, hla, hlb] at h0
      simp at h0
    cbv
    rw [hr, decide_eq_false hlen]
theorem g50 (a b : List Int) (ea eb : List (List D)) (hea : inE a ea) (heb : inE b eb) (ha : a.length ≤ maxLen) (hb : b.length ≤ maxLen) :
    GG 50 [(false, [.row 1 ea]), (false, [.row 1 eb])] (.one (false, [.bool (decide (a = b))])) := by
  have hla := map_len hea
  have hlb := map_len heb
  refine start c50 rfl ?_
  intro r' hr G hG hGW lt le eq add sub mul quo rem conv strEq strLt strCat strLen strAt strCut bytes ofBytes len nth cut fits app rep setEl look upd ne strNe H
  cbv
  cases h0 : ne (len ea) (len eb)
  · have hlen : a.length = b.length := by
      rw [H.ne, H.len, H.len, hla, hlb] at h0
      simp at h0
      omega
    cbv
    obtain ⟨N, hN⟩ : ∃ N, N = a.length := ⟨_, rfl⟩
    obtain ⟨P, hP⟩ : ∃ P : Nat → Prop, ∀ k, P k = (r' = .one (false, [.bool (decide (a.drop k = b.drop k))])) := ⟨_, fun _ => rfl⟩
    refine loopU N (fun k => [(0, .v false [.d (.row 1 ea)]), (1, .v false [.d (.row 1 eb)]), (5, .v false [.d (.int .i64 (Int.ofNat k))])]) [] P ⟨rfl, rfl⟩ ?_ ?_
    · rw [hP]; exact hr
    · intro k hk hr
      rw [hN] at hk
      rw [hP] at hr
      rcases hd : a.drop k with _ | ⟨x, r⟩
      · have h1 := H.rowNil hea hd hk
        have hd2 : b.drop k = [] := by
          have := drop_nil hd hk
          exact List.drop_of_length_le (by omega)
        (try cbv)
        repeat' (first | (rw [h1]; (try cbv)) | (split <;> rename_i heq <;> (try rw [heq]) <;> (try cbv)) | fail)
        rw [hr, hd, hd2]
        rfl
      · obtain ⟨y, q, hd2⟩ := drop_both hlen hd
        obtain ⟨h1, h2, h3, h4, h5⟩ := H.rowCons hea ha hd
        obtain ⟨_, h2', _, h4', _⟩ := H.rowCons heb hb hd2
        rw [hd, hd2] at hr
        (try cbv)
        repeat' (first | (rw [h1]; (try cbv)) | (rw [h2]; (try cbv)) | (rw [h2']; (try cbv)) | (split <;> rename_i heq <;> (try rw [heq]) <;> (try cbv)) | fail)
        all_goals (clear hG; simp only [H.ne, H.strNe] at *)
        all_goals first | (rw [hr]; simp_all; done) | exact ⟨by rw [hN]; exact h5, by rw [hP, h4, h4', hr]; clear hP hN; simp_all, by rw [h3], trivial⟩
  · have hlen : a ≠ b := by
      rintro rfl
      rw [H.ne, H.len, H.len, hla, hlb] at h0
      simp at h0
    cbv
    rw [hr, decide_eq_false hlen]
def listedS (l : List ByteArray) : Int := if 80 < l.length then 3 else if l.all textOk then 0 else 1
theorem g23 (l : List ByteArray) (es : List (List D)) (he : txE l es) (hl : Short l) : GG 23 [(false, [.row 1 es])] (.one (false, [.int .i64 (listedS l)])) := by
  have hlen := he.len
  refine start c23 rfl ?_
  intro r' hr G hG hGW lt le eq add sub mul quo rem conv strEq strLt strCat strLen strAt strCut bytes ofBytes len nth cut fits app rep setEl look upd ne strNe H
  (try cbv)
  repeat' (first | (refine callB (hG _ _ _ (g55 l es he hl 80)) ?_; intro b55 hb55; cases b55 <;> (try cbv)) | (split <;> rename_i heq <;> (try rw [heq]) <;> (try cbv)) | fail)
  · rw [H.lt, H.len, hlen, decide_eq_true_eq] at heq
    rw [hr, listedS, if_pos (by omega)]
  · rw [H.lt, H.len, hlen, decide_eq_false_iff_not] at heq
    rw [hr, listedS, if_neg (by omega)]
    simp only [texts, decide_eq_true (show (l.length : Int) ≤ 80 by omega), Bool.and_true] at hb55
    rw [← hb55]
    rfl
  · rw [H.lt, H.len, hlen, decide_eq_false_iff_not] at heq
    rw [hr, listedS, if_neg (by omega)]
    simp only [texts, decide_eq_true (show (l.length : Int) ≤ 80 by omega), Bool.and_true] at hb55
    rw [← hb55]
    rfl
/-- Sums as int makes them. -/
def w64 (n : Int) : Int := IntKind.i64.wrap n
def meetS (af ac bf bc : Int) : Bool :=
  bif decide (ac = 0) && decide (bc = 0) then decide (af = bf)
  else bif decide (ac = 0) then decide (bf < af) && decide (af < w64 (bf + bc))
  else bif decide (bc = 0) then decide (af < bf) && decide (bf < w64 (af + ac))
  else decide (af < w64 (bf + bc)) && decide (bf < w64 (af + ac))
theorem g33 (ab am af ac : Int) (ap : D) (bb bm bf bc : Int) (bp : D) : GG 33 [(true, [.int .i64 ab, .int .i64 am, .int .i64 af, .int .i64 ac, ap]), (true, [.int .i64 bb, .int .i64 bm, .int .i64 bf, .int .i64 bc, bp])] (.one (false, [.bool (meetS af ac bf bc)])) := by
  refine start c33 rfl ?_
  intro r' hr G hG hGW lt le eq add sub mul quo rem conv strEq strLt strCat strLen strAt strCut bytes ofBytes len nth cut fits app rep setEl look upd ne strNe H
  have e1 : w64 (bf + bc) = add .i64 bf bc := by rw [H.add, w64]
  have e2 : w64 (af + ac) = add .i64 af ac := by rw [H.add, w64]
  simp only [meetS, e1, e2, ← H.eq, ← H.lt] at hr
  clear e1 e2
  (try cbv)
  repeat' (first | (split <;> rename_i heq <;> (try rw [heq]) <;> (try cbv)) | fail)
  all_goals (rw [hr]; clear hG hr; simp_all)
theorem g69 (ab am af ac : Int) (ap : D) : GG 69 [(true, [.int .i64 ab, .int .i64 am, .int .i64 af, .int .i64 ac, ap])] (.one (false, [.int .i64 (w64 (af + ac))])) := by
  refine start c69 rfl ?_
  intro r' hr G hG hGW lt le eq add sub mul quo rem conv strEq strLt strCat strLen strAt strCut bytes ofBytes len nth cut fits app rep setEl look upd ne strNe H
  (try cbv)
  repeat' (first | (split <;> rename_i heq <;> (try rw [heq]) <;> (try cbv)) | fail)
  rw [hr, H.add, w64]
theorem g146z (ab am af : Int) (ap : D) (bb bm bf bc : Int) (bp : D) : GG 146 [(true, [.int .i64 ab, .int .i64 am, .int .i64 af, .int .i64 0, ap]), (true, [.int .i64 bb, .int .i64 bm, .int .i64 bf, .int .i64 bc, bp])] (.one (false, [.bool (meetS af 0 bf bc)])) := by
  refine start c146 rfl ?_
  intro r' hr G hG hGW lt le eq add sub mul quo rem conv strEq strLt strCat strLen strAt strCut bytes ofBytes len nth cut fits app rep setEl look upd ne strNe H
  have e0 : eq 0 0 = true := by rw [H.eq]; rfl
  (try cbv)
  repeat' (first | (rw [e0]; (try cbv)) | (refine callI (hG _ _ _ (g69 _ _ _ _ _)) ?_; intro b69 hb69; (try cbv)) | (split <;> rename_i heq <;> (try rw [heq]) <;> (try cbv)) | fail)
  all_goals (clear hG; simp only [H.eq, H.lt] at *; rw [hr]; subst_vars; simp_all [meetS] <;> omega)
theorem g146 (ab am af ac : Int) (ap : D) (bb bm bf bc : Int) (bp : D) : GG 146 [(true, [.int .i64 ab, .int .i64 am, .int .i64 af, .int .i64 ac, ap]), (true, [.int .i64 bb, .int .i64 bm, .int .i64 bf, .int .i64 bc, bp])] (.one (false, [.bool (meetS af ac bf bc)])) := by
  refine start c146 rfl ?_
  intro r' hr G hG hGW lt le eq add sub mul quo rem conv strEq strLt strCat strLen strAt strCut bytes ofBytes len nth cut fits app rep setEl look upd ne strNe H
  cases ha : eq ac 0 <;> cases hb : eq bc 0
  all_goals have ha' := ha; have hb' := hb
  all_goals rw [H.eq] at ha' hb'
  case false.true =>
    have hb0 : bc = 0 := by simpa using hb'
    subst hb0
    (try cbv)
    repeat' (first | (rw [ha]; (try cbv)) | (rw [hb]; (try cbv)) | (refine callB (hG _ _ _ (g146z _ _ _ _ _ _ _ _ _)) ?_; intro b146z hb146z; (try cbv)) | fail)
    rw [hr, hb146z, meetS, meetS, ha']
    rfl
  all_goals
    (try cbv)
    repeat' (first | (rw [ha]; (try cbv)) | (rw [hb]; (try cbv)) | (refine callI (hG _ _ _ (g69 _ _ _ _ _)) ?_; intro b69 hb69; (try cbv)) | (split <;> rename_i heq <;> (try rw [heq]) <;> (try cbv)) | fail)
    all_goals (clear hG; simp only [H.eq, H.lt] at *; rw [hr]; subst_vars; simp_all [meetS] <;> omega)
theorem g113 (a : Int) : GG 113 [(false, [.int .i64 a])] (.one (false, [.bool false])) := by
  refine start c113 rfl ?_
  intro r' hr G hG hGW lt le eq add sub mul quo rem conv strEq strLt strCat strLen strAt strCut bytes ofBytes len nth cut fits app rep setEl look upd ne strNe H
  (try cbv)
  repeat' (first | (split <;> rename_i heq <;> (try rw [heq]) <;> (try cbv)) | fail)
  rw [hr, H.ne]
  simp
def cmpS (a b : Int) : Int := bif decide (a < b) then -1 else bif decide (b < a) then 1 else 0
theorem g89 (a b : Int) : GG 89 [(false, [.int .i64 a]), (false, [.int .i64 b])] (.one (false, [.int .i64 (cmpS a b)])) := by
  refine start c89 rfl ?_
  intro r' hr G hG hGW lt le eq add sub mul quo rem conv strEq strLt strCat strLen strAt strCut bytes ofBytes len nth cut fits app rep setEl look upd ne strNe H
  simp only [cmpS, ← H.lt] at hr
  (try cbv)
  repeat' (first | (refine callB (hG _ _ _ (g113 a)) ?_; intro b113 hb113; (try cbv)) | (refine callB (hG _ _ _ (g113 b)) ?_; intro b113 hb113; (try cbv)) | (split <;> rename_i heq <;> (try rw [heq]) <;> (try cbv)) | fail)
  all_goals first | (cases hb113; done) | skip
  all_goals (rw [hr]; clear hG hr; simp_all)
def orS : List Int → Int
  | [] => 0
  | x :: r => if x = 0 then orS r else x
theorem g97 (l : List Int) (es : List (List D)) (he : inE l es) (hl : l.length ≤ maxLen) : GG 97 [(false, [.row 1 es])] (.one (false, [.int .i64 (orS l)])) := by
  refine start c97 rfl ?_
  intro r' hr G hG hGW lt le eq add sub mul quo rem conv strEq strLt strCat strLen strAt strCut bytes ofBytes len nth cut fits app rep setEl look upd ne strNe H
  cbv
  obtain ⟨N, hN⟩ : ∃ N, N = l.length := ⟨_, rfl⟩
  obtain ⟨P, hP⟩ : ∃ P : Nat → Prop, ∀ k, P k = (r' = .one (false, [.int .i64 (orS (l.drop k))])) := ⟨_, fun _ => rfl⟩
  refine loopU N (fun k => [(3, .v false [.d (.int .i64 0)]), (6, .v false [.d (.row 1 es)]), (7, .v false [.d (.int .i64 (len es))]), (8, .v false [.d (.int .i64 (Int.ofNat k))])]) [] P ⟨rfl, rfl⟩ ?_ ?_
  · rw [hP]; exact hr
  · intro k hk hr
    rw [hN] at hk
    rw [hP] at hr
    rcases hd : l.drop k with _ | ⟨x, r⟩
    · have h1 := H.rowNil he hd hk
      (try cbv)
      repeat' (first | (rw [h1]; (try cbv)) | (split <;> rename_i heq <;> (try rw [heq]) <;> (try cbv)) | fail)
      rw [hr, hd]
      rfl
    · obtain ⟨h1, h2, h3, h4, h5⟩ := H.rowCons he hl hd
      rw [hd, orS] at hr
      (try cbv)
      repeat' (first | (rw [h1]; (try cbv)) | (rw [h2]; (try cbv)) | (split <;> rename_i heq <;> (try rw [heq]) <;> (try cbv)) | fail)
      all_goals (rw [H.ne] at heq; simp at heq)
      · rw [hr, if_neg heq]
      · exact ⟨by rw [hN]; exact h5, by rw [hP, h4, hr, if_pos heq], by rw [h3], trivial⟩
theorem g66 (l : List Int) (es : List (List D)) (he : inE l es) (hl : l.length ≤ maxLen) : GG 66 [(false, [.row 1 es])] (.one (false, [.int .i64 (orS l)])) := by
  refine start c66 rfl ?_
  intro r' hr G hG hGW lt le eq add sub mul quo rem conv strEq strLt strCat strLen strAt strCut bytes ofBytes len nth cut fits app rep setEl look upd ne strNe H
  (try cbv)
  repeat' (first | (refine callI (hG _ _ _ (g97 l es he hl)) ?_; intro b97 hb97; (try cbv)) | (split <;> rename_i heq <;> (try rw [heq]) <;> (try cbv)) | fail)
  rw [hr, hb97]
def ownsS (l : List Sd) (i m : Int) : Bool := decide (0 ≤ i) && match l[i.toNat]? with
  | some x => decide (x.sp = m)
  | none => false
theorem g93 (l : List Sd) (es : List (List D)) (he : sdE l es) (hl : l.length ≤ 100000) (o w i m : Int) : GG 93 [(true, [.row 2 es, .int .i64 o, .int .i64 w]), (false, [.int .i64 i]), (false, [.int .i64 m])] (.one (false, [.bool (ownsS l i m)])) := by
  have hlen := map_len he
  refine start c93 rfl ?_
  intro r' hr G hG hGW lt le eq add sub mul quo rem conv strEq strLt strCat strLen strAt strCut bytes ofBytes len nth cut fits app rep setEl look upd ne strNe H
  have hs : sub .i64 (len es) 1 = (l.length : Int) - 1 := by rw [H.sub, H.len, hlen, wrap64] <;> omega
  (try cbv)
  repeat' (first | (rw [hs]; (try cbv)) | (refine callB (hG _ _ _ (g28 _ _ _)) ?_; intro b28 hb28; (try cbv)) | fail)
  by_cases hi : 0 ≤ i ∧ i ≤ (l.length : Int) - 1
  · obtain ⟨j, rfl⟩ : ∃ j : Nat, i = j := ⟨i.toNat, by omega⟩
    have hj : j < l.length := by omega
    rw [decide_eq_true hi.1, decide_eq_true hi.2] at hb28
    subst hb28
    obtain ⟨x, hx⟩ : ∃ x, l[j]? = some x := ⟨_, List.getElem?_eq_getElem hj⟩
    have h2 : nth es (j : Int) = some [.str x.t, .int .i64 x.sp] := by rw [H.nth, he]; simp [hx]
    simp only [ownsS, Int.toNat_natCast, hx, decide_eq_true hi.1, Bool.true_and, ← H.eq] at hr
    generalize (j : Int) = ji at *
    (try cbv)
    repeat' (first | (rw [h2]; (try cbv)) | fail)
    rw [hr]
  · have h9 : b28 = false := by
      rw [hb28]
      by_cases h : 0 ≤ i
      · rw [decide_eq_false (p := i ≤ (l.length : Int) - 1) (by omega), Bool.and_false]
      · rw [decide_eq_false h, Bool.false_and]
    subst h9
    cbv
    rw [hr, ownsS]
    by_cases h : 0 ≤ i
    · have : ¬ i ≤ (l.length : Int) - 1 := fun h' => hi ⟨h, h'⟩
      rw [List.getElem?_eq_none (by omega), Bool.and_false]
    · rw [decide_eq_false h, Bool.false_and]
def soonS (a b : Rq) (i k : Nat) : Bool := bif decide (a.minute ≠ b.minute) then decide (a.minute < b.minute) else bif decide (a.by' ≠ b.by') then decide (a.by' < b.by') else decide (i < k)
theorem g62 (l : List Rq) (es : List (List D)) (he : rqE l es) (i k : Nat) (a b : Rq) (ha : l[i]? = some a) (hb : l[k]? = some b) : GG 62 [(false, [.row 5 es]), (false, [.int .i64 i]), (false, [.int .i64 k])] (.one (false, [.bool (soonS a b i k)])) := by
  have e3 : decide (i < k) = decide ((i : Int) < (k : Int)) := by rw [Bool.eq_iff_iff]; simp
  simp only [soonS, e3]
  clear e3
  refine start c62 rfl ?_
  intro r' hr G hG hGW lt le eq add sub mul quo rem conv strEq strLt strCat strLen strAt strCut bytes ofBytes len nth cut fits app rep setEl look upd ne strNe H
  have h1 : nth es (i : Int) = some (rqD a) := by rw [H.nth, he]; simp [ha]
  have h2 : nth es (k : Int) = some (rqD b) := by rw [H.nth, he]; simp [hb]
  simp only [← H.ne, ← H.lt] at hr
  generalize (i : Int) = ii at *
  generalize (k : Int) = kk at *
  obtain ⟨ab, am, af, ac, ap⟩ := a
  obtain ⟨bb, bm, bf, bc, bp⟩ := b
  simp only [rqD, putD] at h1 h2 hr
  generalize (ap.map fun s => [D.str s]) = apd at *
  generalize (bp.map fun s => [D.str s]) = bpd at *
  (try cbv)
  repeat' (first | (rw [h1]; (try cbv)) | (rw [h2]; (try cbv)) | (split <;> rename_i heq <;> (try rw [heq]) <;> (try cbv)) | fail)
  all_goals (rw [hr]; clear hG hr; simp_all)
def oldsS (l : List Sd) (f t : Nat) : List ByteArray := ((l.drop f).take (t - f)).map (·.t)
theorem g47 (l : List Sd) (es : List (List D)) (he : sdE l es) (hl : l.length ≤ 100000) (o w : Int) (f t : Nat) (hf : f ≤ l.length) (ht : t ≤ l.length) :
    GG 47 [(true, [.row 2 es, .int .i64 o, .int .i64 w]), (false, [.int .i64 f]), (false, [.int .i64 t])] (.one (false, [.row 1 ((oldsS l f t).map fun s => [.str s])])) := by
  have hlen := map_len he
  have hl' : l.length ≤ maxLen := Nat.le_trans hl (by decide)
  refine start c47 rfl ?_
  intro r' hr G hG hGW lt le eq add sub mul quo rem conv strEq strLt strCat strLen strAt strCut bytes ofBytes len nth cut fits app rep setEl look upd ne strNe H
  obtain ⟨A, hA⟩ : ∃ A : Nat → List (List D), ∀ k, A k = ((oldsS l f (f + k)).map fun s => [.str s]) := ⟨_, fun _ => rfl⟩
  obtain ⟨U, hU⟩ : ∃ U : Nat → Int, ∀ k, U k = ((f + k : Nat) : Int) := ⟨_, fun _ => rfl⟩
  have hU0 : (f : Int) = U 0 := by rw [hU]; rfl
  rw [hU0]
  generalize htt : (t : Int) = tt
  cbv
  obtain ⟨N, hN⟩ : ∃ N, N = (t - f) := ⟨_, rfl⟩
  obtain ⟨P, hP⟩ : ∃ P : Nat → Prop, ∀ k, P k = (True) := ⟨_, fun _ => rfl⟩
  refine loopV N (fun k => [(2, .v false [.d (.int .i64 tt)]), (3, .v false [.loc 0 0]), (7, .v false [.own 2]), (8, .v false [.d (.int .i64 (U k))])]) (fun k => [(0, .blk [.d (.row 2 es), .d (.int .i64 o), .d (.int .i64 w)]), (1, .arr 9 1 []), (2, .arr 9 1 (A k))]) P ?_ ?_ ?_
  · rw [hA 0]
    simp only [oldsS, Nat.add_zero, Nat.sub_self, List.take_zero]
    exact ⟨rfl, rfl⟩
  · rw [hP]; trivial
  · intro k hk _
    rw [hN] at hk
    cases h1 : lt (U k) tt
    · rw [H.lt, hU, ← htt, decide_eq_false_iff_not] at h1
      have hk3 : ¬ f + k < t := fun h => h1 (Int.ofNat_lt.2 h)
      have hk2 : k = t - f := by omega
      have h1 : lt (U k) tt = false := by rw [H.lt, hU, ← htt, decide_eq_false_iff_not]; exact h1
      (try cbv)
      repeat' (first | (rw [h1]; (try cbv)) | fail)
      rw [hr, hA]
      congr 4
      subst hk2
      unfold oldsS
      congr 3
      omega
    · have h1' := h1
      rw [H.lt, hU, ← htt, decide_eq_true_eq] at h1'
      have hk2 : f + k < t := Int.ofNat_lt.1 h1'
      obtain ⟨x, hx⟩ : ∃ x, l[f + k]? = some x := ⟨_, List.getElem?_eq_getElem (by omega)⟩
      have h2 : nth es (U k) = some [.str x.t, .int .i64 x.sp] := by rw [H.nth, hU, he, if_pos (Int.natCast_nonneg _), Int.toNat_natCast]; simp [hx]
      have h3 : add .i64 (U k) 1 = U (k + 1) := by rw [H.add, hU, hU, wrap64 (by show _ ≤ ((f + k : Nat) : Int) + 1; omega) (by show ((f + k : Nat) : Int) + 1 < _; omega)]; rfl
      have h6 : ∀ x, fits 16 (app (A k) [x]) = true := fun x => H.fitsLe (by rw [H.app, hA]; simp [oldsS]; omega) (by decide)
      have h7 : app (A k) [[.str x.t]] = A (k + 1) := by
        rw [H.app, hA, hA]
        simp only [oldsS, Nat.add_sub_cancel_left]
        rw [List.take_add_one]
        simp [hx]
      (try cbv)
      repeat' (first | (rw [h1]; (try cbv)) | (rw [h2]; (try cbv)) | (refine ⟨(h6 _), ?_⟩; (try cbv)) | (refine ⟨lenOne rfl, ?_⟩; (try cbv)) | fail)
      exact ⟨by rw [hN]; show k < t - f; omega, by rw [hP]; trivial, by rw [h3], by rw [h7]⟩
end Go.Vi
