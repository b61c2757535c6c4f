/-
  Contracts of numbers, texts, lists.
-/
import Derived.Test.YtkjnedjjdmfpbaaGreatDoorA6
import Derived.Test.YtkjnedjjdmfpbaaGreatDoorC1
import Derived.Test.YtkjnedjjdmfpbaaGreatDoorC2
import Derived.Test.YtkjnedjjdmfpbaaGreatDoorC3
set_option linter.unusedVariables false
set_option linter.unusedSimpArgs false
set_option linter.unusedSectionVars false
namespace Go.Vi
open Go.Proofs
set_option maxRecDepth 100000
set_option linter.unusedVariables false
set_option linter.unusedSimpArgs false
theorem g28 (n lo hi : Int) : GG 28 [(false, [.int .i64 n]), (false, [.int .i64 lo]), (false, [.int .i64 hi])] (.one (false, [.bool (decide (lo ≤ n) && decide (n ≤ hi))])) := by
  refine start c28 rfl ?_
  intro r' hr G hG hGW lt le eq add sub mul quo rem conv strEq strLt strCat strLen strAt strCut bytes ofBytes len nth cut fits app rep setEl look upd ne strNe H
  (try cbv)
  repeat' (first | (split <;> rename_i heq <;> (try rw [heq]) <;> (try cbv)) | fail)
  all_goals (subst hr; simp_all [H.le] <;> omega)
def okByte (b : UInt8) : Bool := decide (33 ≤ b.toNat) && decide (b.toNat ≤ 126)
def textOk (s : ByteArray) : Bool := s.data.toList.all okByte && (decide (1 ≤ (s.size : Int)) && decide ((s.size : Int) ≤ 32))
theorem okB {x : UInt8} {c : Int} (hc : c = x.toNat) : okByte x = (decide (33 ≤ c) && decide (c ≤ 126)) := by
  subst hc
  unfold okByte
  congr 1 <;> (rw [Bool.eq_iff_iff]; simp only [decide_eq_true_eq]; omega)
theorem g60 (s : ByteArray) (hs : s.size ≤ maxLen) : GG 60 [(false, [.str s])] (.one (false, [.bool (textOk s)])) := by
  refine start c60 rfl ?_
  intro r' hr G hG hGW lt le eq add sub mul quo rem conv strEq strLt strCat strLen strAt strCut bytes ofBytes len nth cut fits app rep setEl look upd ne strNe H
  cbv
  obtain ⟨N, hN⟩ : ∃ N, N = s.data.toList.length := ⟨_, rfl⟩
  obtain ⟨P, hP⟩ : ∃ P : Nat → Prop, ∀ k, P k = (r' = .one (false, [.bool ((s.data.toList.drop k).all okByte && (decide (1 ≤ (s.size : Int)) && decide ((s.size : Int) ≤ 32)))])) := ⟨_, fun _ => rfl⟩
  refine loopU N (fun k => [(0, .v false [.d (.str s)]), (3, .v false [.d (.int .i64 (Int.ofNat k))])]) [] P ⟨rfl, rfl⟩ ?_ ?_
  · rw [hP]; exact hr
  · intro k hk hr
    rw [hN] at hk
    rw [hP] at hr
    rcases hd : s.data.toList.drop k with _ | ⟨x, r⟩
    · have h1 := H.strNil hd hk
      (try cbv)
      repeat' (first | (rw [h1]; (try cbv)) | (refine callB (hG _ _ _ (g28 _ _ _)) ?_; intro b28 hb28; (try cbv)) | (split <;> rename_i heq <;> (try rw [heq]) <;> (try cbv)) | fail)
      rw [hr, hb28, hd, H.strLen]
      rfl
    · obtain ⟨h1, ⟨c, h2, hc⟩, h3, h4, h5⟩ := H.strCons hs hd
      rw [hd, List.all_cons] at hr
      (try cbv)
      repeat' (first | (rw [h1]; (try cbv)) | (rw [h2]; (try cbv)) | (split <;> rename_i heq <;> (try rw [heq]) <;> (try cbv)) | fail)
      · rw [H.lt, decide_eq_true_eq] at heq
        rw [hr, okB hc, decide_eq_false (by omega)]; rfl
      · rw [H.lt, decide_eq_true_eq] at heq
        rw [hr, okB hc, decide_eq_false (p := c ≤ 126) (by omega), Bool.and_false]; rfl
      · rename_i hx _
        rw [H.lt, decide_eq_false_iff_not] at heq hx
        exact ⟨by rw [hN]; exact h5, by rw [hP, h4]; rw [hr, okB hc, decide_eq_true (by omega), decide_eq_true (by omega)]; rfl, by rw [h3], trivial⟩
end Go.Vi
namespace Go.Vi
open Go.Proofs
set_option maxRecDepth 100000
set_option linter.unusedVariables false
set_option linter.unusedSimpArgs false
/-- The first place, from k on; -1: none. -/
def idxGo {β : Type} (p : β → Bool) : Nat → List β → Int
  | _, [] => -1
  | k, x :: r => match p x with
    | true => Int.ofNat k
    | false => idxGo p (k + 1) r
theorem idxGo_nonneg {β : Type} (p : β → Bool) : ∀ (k : Nat) (l : List β), decide (0 ≤ idxGo p k l) = l.any p
  | _, [] => rfl
  | k, x :: r => by
    cases h : p x
    · simp [idxGo, h, idxGo_nonneg p (k + 1) r]
    · simp [idxGo, h]
theorem any_not {β : Type} (p : β → Bool) : ∀ (l : List β), (!l.any fun x => !p x) = l.all p
  | [] => rfl
  | x :: r => by simp [← any_not p r]

theorem g132 {β : Type} (e0 e1 e2 : β → D) (l : List β) (es : List (List D)) (he : es = l.map fun x => [e0 x, e1 x, e2 x]) (hl : l.length ≤ maxLen) (f : Nat) (first : List DV) (cap : List D) (p : β → Bool) (hp : ∀ x ∈ l, GG f (first ++ [(true, [e0 x, e1 x, e2 x])] ++ cap.map fun d => (false, [d])) (.one (false, [.bool (p x)]))) :
    GG 132 [(false, [.row 3 es]), (false, [.fn f first cap])] (.one (false, [.int .i64 (idxGo p 0 l)])) := by
  refine start c132 rfl ?_
  intro r' hr G hG hGW lt le eq add sub mul quo rem conv strEq strLt strCat strLen strAt strCut bytes ofBytes len nth cut fits app rep setEl look upd ne strNe H
  cbv
  obtain ⟨N, hN⟩ : ∃ N, N = l.length := ⟨_, rfl⟩
  obtain ⟨P, hP⟩ : ∃ P : Nat → Prop, ∀ k, P k = (r' = .one (false, [.int .i64 (idxGo p k (l.drop k))])) := ⟨_, fun _ => rfl⟩
  refine loopU N (fun k => [(0, .v false [.d (.row 3 es)]), (1, .v false [.d (.fn f first cap)]), (7, .v false [.d (.int .i64 (len es))]), (8, .v false [.d (.int .i64 (Int.ofNat k))])]) [] P ⟨rfl, rfl⟩ ?_ ?_
  · rw [hP]; exact hr
  · intro k hk hr
    rw [hN] at hk
    rw [hP] at hr
    rcases hd : l.drop k with _ | ⟨x, r⟩
    · have h1 := H.rowNil he hd hk
      (try cbv)
      repeat' (first | (rw [h1]; (try cbv)) | (split <;> rename_i heq <;> (try rw [heq]) <;> (try cbv)) | fail)
      rw [hr, hd]
      rfl
    · obtain ⟨h1, h2, h3, h4, h5⟩ := H.rowCons he hl hd
      have hx : x ∈ l := List.mem_of_getElem? (drop_cons hd).2.1
      have hpx := hp x hx
      generalize p x = b at hpx
      rw [hd] at hr
      (try cbv)
      repeat' (first | (rw [h1]; (try cbv)) | (rw [h2]; (try cbv)) | (refine ⟨_, hG _ _ _ (hp x hx), rfl, ?_⟩; generalize hb : p x = b; (try cbv)) | fail)
      simp only [idxGo, hb] at hr
      cases b
      · cbv
        exact ⟨by rw [hN]; exact h5, by rw [hP, h4]; exact hr, by rw [h3], trivial⟩
      · cbv
        rw [hr]

theorem g98 {β : Type} (e0 e1 e2 : β → D) (l : List β) (es : List (List D)) (he : es = l.map fun x => [e0 x, e1 x, e2 x]) (hl : l.length ≤ maxLen) (f : Nat) (first : List DV) (cap : List D) (p : β → Bool) (hp : ∀ x ∈ l, GG f (first ++ [(true, [e0 x, e1 x, e2 x])] ++ cap.map fun d => (false, [d])) (.one (false, [.bool (p x)]))) :
    GG 98 [(false, [.row 3 es]), (false, [.fn f first cap])] (.one (false, [.bool (l.any p)])) := by
  refine start c98 rfl ?_
  intro r' hr G hG hGW lt le eq add sub mul quo rem conv strEq strLt strCat strLen strAt strCut bytes ofBytes len nth cut fits app rep setEl look upd ne strNe H
  (try cbv)
  repeat' (first | (refine callI (hG _ _ _ (g132 e0 e1 e2 l es he hl f first cap p hp)) ?_; intro b132 hb132; (try cbv)) | fail)
  rw [hr, H.le, hb132, idxGo_nonneg]

theorem g99 (x0 x1 x2 : D) (f : Nat) (first : List DV) (cap : List D) (b : Bool) (hp : GG f (first ++ [(true, [x0, x1, x2])] ++ cap.map fun d => (false, [d])) (.one (false, [.bool b]))) : GG 99 [(true, [x0, x1, x2]), (false, [.ro [.fn f first cap] 0])] (.one (false, [.bool (!b)])) := by
  obtain ⟨b', hb'⟩ : ∃ b', b' = !b := ⟨_, rfl⟩
  rw [← hb']
  refine start c99 rfl ?_
  intro r' hr G hG hGW lt le eq add sub mul quo rem conv strEq strLt strCat strLen strAt strCut bytes ofBytes len nth cut fits app rep setEl look upd ne strNe H
  (try cbv)
  repeat' (first | (refine callB (hG _ _ _ hp) ?_; intro c hc; (try cbv)) | fail)
  rw [hr, hb', hc]
  cases b <;> rfl

theorem g73 {β : Type} (e0 e1 e2 : β → D) (l : List β) (es : List (List D)) (he : es = l.map fun x => [e0 x, e1 x, e2 x]) (hl : l.length ≤ maxLen) (f : Nat) (first : List DV) (cap : List D) (p : β → Bool) (hp : ∀ x ∈ l, GG f (first ++ [(true, [e0 x, e1 x, e2 x])] ++ cap.map fun d => (false, [d])) (.one (false, [.bool (p x)]))) :
    GG 73 [(false, [.row 3 es]), (false, [.fn f first cap])] (.one (false, [.bool (l.all p)])) := by
  refine start c73 rfl ?_
  intro r' hr G hG hGW lt le eq add sub mul quo rem conv strEq strLt strCat strLen strAt strCut bytes ofBytes len nth cut fits app rep setEl look upd ne strNe H
  (try cbv)
  repeat' (first | (refine callB (hG _ _ _ (g98 e0 e1 e2 l es he hl 99 [] [.ro [.fn f first cap] 0] (fun x => !p x) (fun x hx => g99 (e0 x) (e1 x) (e2 x) f first cap (p x) (hp x hx)))) ?_; intro b98 hb98; (try cbv)) | fail)
  rw [hr, hb98, ← any_not]
  cases l.any fun x => !p x <;> rfl

theorem g133 {β : Type} (e0 : β → D) (l : List β) (es : List (List D)) (he : es = l.map fun x => [e0 x]) (hl : l.length ≤ maxLen) (f : Nat) (first : List DV) (cap : List D) (p : β → Bool) (hp : ∀ x ∈ l, GG f (first ++ [(false, [e0 x])] ++ cap.map fun d => (false, [d])) (.one (false, [.bool (p x)]))) :
    GG 133 [(false, [.row 1 es]), (false, [.fn f first cap])] (.one (false, [.int .i64 (idxGo p 0 l)])) := by
  refine start c133 rfl ?_
  intro r' hr G hG hGW lt le eq add sub mul quo rem conv strEq strLt strCat strLen strAt strCut bytes ofBytes len nth cut fits app rep setEl look upd ne strNe H
  cbv
  obtain ⟨N, hN⟩ : ∃ N, N = l.length := ⟨_, rfl⟩
  obtain ⟨P, hP⟩ : ∃ P : Nat → Prop, ∀ k, P k = (r' = .one (false, [.int .i64 (idxGo p k (l.drop k))])) := ⟨_, fun _ => rfl⟩
  refine loopU N (fun k => [(0, .v false [.d (.row 1 es)]), (1, .v false [.d (.fn f first cap)]), (7, .v false [.d (.int .i64 (len es))]), (8, .v false [.d (.int .i64 (Int.ofNat k))])]) [] P ⟨rfl, rfl⟩ ?_ ?_
  · rw [hP]; exact hr
  · intro k hk hr
    rw [hN] at hk
    rw [hP] at hr
    rcases hd : l.drop k with _ | ⟨x, r⟩
    · have h1 := H.rowNil he hd hk
      (try cbv)
      repeat' (first | (rw [h1]; (try cbv)) | (split <;> rename_i heq <;> (try rw [heq]) <;> (try cbv)) | fail)
      rw [hr, hd]
      rfl
    · obtain ⟨h1, h2, h3, h4, h5⟩ := H.rowCons he hl hd
      have hx : x ∈ l := List.mem_of_getElem? (drop_cons hd).2.1
      have hpx := hp x hx
      generalize p x = b at hpx
      rw [hd] at hr
      (try cbv)
      repeat' (first | (rw [h1]; (try cbv)) | (rw [h2]; (try cbv)) | (refine ⟨_, hG _ _ _ (hp x hx), rfl, ?_⟩; generalize hb : p x = b; (try cbv)) | fail)
      simp only [idxGo, hb] at hr
      cases b
      · cbv
        exact ⟨by rw [hN]; exact h5, by rw [hP, h4]; exact hr, by rw [h3], trivial⟩
      · cbv
        rw [hr]

theorem g100 {β : Type} (e0 : β → D) (l : List β) (es : List (List D)) (he : es = l.map fun x => [e0 x]) (hl : l.length ≤ maxLen) (f : Nat) (first : List DV) (cap : List D) (p : β → Bool) (hp : ∀ x ∈ l, GG f (first ++ [(false, [e0 x])] ++ cap.map fun d => (false, [d])) (.one (false, [.bool (p x)]))) :
    GG 100 [(false, [.row 1 es]), (false, [.fn f first cap])] (.one (false, [.bool (l.any p)])) := by
  refine start c100 rfl ?_
  intro r' hr G hG hGW lt le eq add sub mul quo rem conv strEq strLt strCat strLen strAt strCut bytes ofBytes len nth cut fits app rep setEl look upd ne strNe H
  (try cbv)
  repeat' (first | (refine callI (hG _ _ _ (g133 e0 l es he hl f first cap p hp)) ?_; intro b133 hb133; (try cbv)) | fail)
  rw [hr, H.le, hb133, idxGo_nonneg]

theorem g101 (x0 : D) (f : Nat) (first : List DV) (cap : List D) (b : Bool) (hp : GG f (first ++ [(false, [x0])] ++ cap.map fun d => (false, [d])) (.one (false, [.bool b]))) : GG 101 [(false, [x0]), (false, [.ro [.fn f first cap] 0])] (.one (false, [.bool (!b)])) := by
  obtain ⟨b', hb'⟩ : ∃ b', b' = !b := ⟨_, rfl⟩
  rw [← hb']
  refine start c101 rfl ?_
  intro r' hr G hG hGW lt le eq add sub mul quo rem conv strEq strLt strCat strLen strAt strCut bytes ofBytes len nth cut fits app rep setEl look upd ne strNe H
  (try cbv)
  repeat' (first | (refine callB (hG _ _ _ hp) ?_; intro c hc; (try cbv)) | fail)
  rw [hr, hb', hc]
  cases b <;> rfl

theorem g74 {β : Type} (e0 : β → D) (l : List β) (es : List (List D)) (he : es = l.map fun x => [e0 x]) (hl : l.length ≤ maxLen) (f : Nat) (first : List DV) (cap : List D) (p : β → Bool) (hp : ∀ x ∈ l, GG f (first ++ [(false, [e0 x])] ++ cap.map fun d => (false, [d])) (.one (false, [.bool (p x)]))) :
    GG 74 [(false, [.row 1 es]), (false, [.fn f first cap])] (.one (false, [.bool (l.all p)])) := by
  refine start c74 rfl ?_
  intro r' hr G hG hGW lt le eq add sub mul quo rem conv strEq strLt strCat strLen strAt strCut bytes ofBytes len nth cut fits app rep setEl look upd ne strNe H
  (try cbv)
  repeat' (first | (refine callB (hG _ _ _ (g100 e0 l es he hl 101 [] [.ro [.fn f first cap] 0] (fun x => !p x) (fun x hx => g101 (e0 x) f first cap (p x) (hp x hx)))) ?_; intro b100 hb100; (try cbv)) | fail)
  rw [hr, hb100, ← any_not]
  cases l.any fun x => !p x <;> rfl

theorem g134 {β : Type} (e0 : β → D) (l : List β) (es : List (List D)) (he : es = l.map fun x => [e0 x]) (hl : l.length ≤ maxLen) (f : Nat) (first : List DV) (cap : List D) (p : β → Bool) (hp : ∀ x ∈ l, GG f (first ++ [(false, [e0 x])] ++ cap.map fun d => (false, [d])) (.one (false, [.bool (p x)]))) :
    GG 134 [(false, [.row 1 es]), (false, [.fn f first cap])] (.one (false, [.int .i64 (idxGo p 0 l)])) := by
  refine start c134 rfl ?_
  intro r' hr G hG hGW lt le eq add sub mul quo rem conv strEq strLt strCat strLen strAt strCut bytes ofBytes len nth cut fits app rep setEl look upd ne strNe H
  cbv
  obtain ⟨N, hN⟩ : ∃ N, N = l.length := ⟨_, rfl⟩
  obtain ⟨P, hP⟩ : ∃ P : Nat → Prop, ∀ k, P k = (r' = .one (false, [.int .i64 (idxGo p k (l.drop k))])) := ⟨_, fun _ => rfl⟩
  refine loopU N (fun k => [(0, .v false [.d (.row 1 es)]), (1, .v false [.d (.fn f first cap)]), (7, .v false [.d (.int .i64 (len es))]), (8, .v false [.d (.int .i64 (Int.ofNat k))])]) [] P ⟨rfl, rfl⟩ ?_ ?_
  · rw [hP]; exact hr
  · intro k hk hr
    rw [hN] at hk
    rw [hP] at hr
    rcases hd : l.drop k with _ | ⟨x, r⟩
    · have h1 := H.rowNil he hd hk
      (try cbv)
      repeat' (first | (rw [h1]; (try cbv)) | (split <;> rename_i heq <;> (try rw [heq]) <;> (try cbv)) | fail)
      rw [hr, hd]
      rfl
    · obtain ⟨h1, h2, h3, h4, h5⟩ := H.rowCons he hl hd
      have hx : x ∈ l := List.mem_of_getElem? (drop_cons hd).2.1
      have hpx := hp x hx
      generalize p x = b at hpx
      rw [hd] at hr
      (try cbv)
      repeat' (first | (rw [h1]; (try cbv)) | (rw [h2]; (try cbv)) | (refine ⟨_, hG _ _ _ (hp x hx), rfl, ?_⟩; generalize hb : p x = b; (try cbv)) | fail)
      simp only [idxGo, hb] at hr
      cases b
      · cbv
        exact ⟨by rw [hN]; exact h5, by rw [hP, h4]; exact hr, by rw [h3], trivial⟩
      · cbv
        rw [hr]

theorem g102 {β : Type} (e0 : β → D) (l : List β) (es : List (List D)) (he : es = l.map fun x => [e0 x]) (hl : l.length ≤ maxLen) (f : Nat) (first : List DV) (cap : List D) (p : β → Bool) (hp : ∀ x ∈ l, GG f (first ++ [(false, [e0 x])] ++ cap.map fun d => (false, [d])) (.one (false, [.bool (p x)]))) :
    GG 102 [(false, [.row 1 es]), (false, [.fn f first cap])] (.one (false, [.bool (l.any p)])) := by
  refine start c102 rfl ?_
  intro r' hr G hG hGW lt le eq add sub mul quo rem conv strEq strLt strCat strLen strAt strCut bytes ofBytes len nth cut fits app rep setEl look upd ne strNe H
  (try cbv)
  repeat' (first | (refine callI (hG _ _ _ (g134 e0 l es he hl f first cap p hp)) ?_; intro b134 hb134; (try cbv)) | fail)
  rw [hr, H.le, hb134, idxGo_nonneg]

theorem g103 (x0 : D) (f : Nat) (first : List DV) (cap : List D) (b : Bool) (hp : GG f (first ++ [(false, [x0])] ++ cap.map fun d => (false, [d])) (.one (false, [.bool b]))) : GG 103 [(false, [x0]), (false, [.ro [.fn f first cap] 0])] (.one (false, [.bool (!b)])) := by
  obtain ⟨b', hb'⟩ : ∃ b', b' = !b := ⟨_, rfl⟩
  rw [← hb']
  refine start c103 rfl ?_
  intro r' hr G hG hGW lt le eq add sub mul quo rem conv strEq strLt strCat strLen strAt strCut bytes ofBytes len nth cut fits app rep setEl look upd ne strNe H
  (try cbv)
  repeat' (first | (refine callB (hG _ _ _ hp) ?_; intro c hc; (try cbv)) | fail)
  rw [hr, hb', hc]
  cases b <;> rfl

theorem g77 {β : Type} (e0 : β → D) (l : List β) (es : List (List D)) (he : es = l.map fun x => [e0 x]) (hl : l.length ≤ maxLen) (f : Nat) (first : List DV) (cap : List D) (p : β → Bool) (hp : ∀ x ∈ l, GG f (first ++ [(false, [e0 x])] ++ cap.map fun d => (false, [d])) (.one (false, [.bool (p x)]))) :
    GG 77 [(false, [.row 1 es]), (false, [.fn f first cap])] (.one (false, [.bool (l.all p)])) := by
  refine start c77 rfl ?_
  intro r' hr G hG hGW lt le eq add sub mul quo rem conv strEq strLt strCat strLen strAt strCut bytes ofBytes len nth cut fits app rep setEl look upd ne strNe H
  (try cbv)
  repeat' (first | (refine callB (hG _ _ _ (g102 e0 l es he hl 103 [] [.ro [.fn f first cap] 0] (fun x => !p x) (fun x hx => g103 (e0 x) f first cap (p x) (hp x hx)))) ?_; intro b102 hb102; (try cbv)) | fail)
  rw [hr, hb102, ← any_not]
  cases l.any fun x => !p x <;> rfl

theorem g141 {β : Type} (e0 e1 : β → D) (l : List β) (es : List (List D)) (he : es = l.map fun x => [e0 x, e1 x]) (hl : l.length ≤ maxLen) (f : Nat) (first : List DV) (cap : List D) (p : β → Bool) (hp : ∀ x ∈ l, GG f (first ++ [(true, [e0 x, e1 x])] ++ cap.map fun d => (false, [d])) (.one (false, [.bool (p x)]))) :
    GG 141 [(false, [.row 2 es]), (false, [.fn f first cap])] (.one (false, [.int .i64 (idxGo p 0 l)])) := by
  refine start c141 rfl ?_
  intro r' hr G hG hGW lt le eq add sub mul quo rem conv strEq strLt strCat strLen strAt strCut bytes ofBytes len nth cut fits app rep setEl look upd ne strNe H
  cbv
  obtain ⟨N, hN⟩ : ∃ N, N = l.length := ⟨_, rfl⟩
  obtain ⟨P, hP⟩ : ∃ P : Nat → Prop, ∀ k, P k = (r' = .one (false, [.int .i64 (idxGo p k (l.drop k))])) := ⟨_, fun _ => rfl⟩
  refine loopU N (fun k => [(0, .v false [.d (.row 2 es)]), (1, .v false [.d (.fn f first cap)]), (7, .v false [.d (.int .i64 (len es))]), (8, .v false [.d (.int .i64 (Int.ofNat k))])]) [] P ⟨rfl, rfl⟩ ?_ ?_
  · rw [hP]; exact hr
  · intro k hk hr
    rw [hN] at hk
    rw [hP] at hr
    rcases hd : l.drop k with _ | ⟨x, r⟩
    · have h1 := H.rowNil he hd hk
      (try cbv)
      repeat' (first | (rw [h1]; (try cbv)) | (split <;> rename_i heq <;> (try rw [heq]) <;> (try cbv)) | fail)
      rw [hr, hd]
      rfl
    · obtain ⟨h1, h2, h3, h4, h5⟩ := H.rowCons he hl hd
      have hx : x ∈ l := List.mem_of_getElem? (drop_cons hd).2.1
      have hpx := hp x hx
      generalize p x = b at hpx
      rw [hd] at hr
      (try cbv)
      repeat' (first | (rw [h1]; (try cbv)) | (rw [h2]; (try cbv)) | (refine ⟨_, hG _ _ _ (hp x hx), rfl, ?_⟩; generalize hb : p x = b; (try cbv)) | fail)
      simp only [idxGo, hb] at hr
      cases b
      · cbv
        exact ⟨by rw [hN]; exact h5, by rw [hP, h4]; exact hr, by rw [h3], trivial⟩
      · cbv
        rw [hr]

theorem g109 {β : Type} (e0 e1 : β → D) (l : List β) (es : List (List D)) (he : es = l.map fun x => [e0 x, e1 x]) (hl : l.length ≤ maxLen) (f : Nat) (first : List DV) (cap : List D) (p : β → Bool) (hp : ∀ x ∈ l, GG f (first ++ [(true, [e0 x, e1 x])] ++ cap.map fun d => (false, [d])) (.one (false, [.bool (p x)]))) :
    GG 109 [(false, [.row 2 es]), (false, [.fn f first cap])] (.one (false, [.bool (l.any p)])) := by
  refine start c109 rfl ?_
  intro r' hr G hG hGW lt le eq add sub mul quo rem conv strEq strLt strCat strLen strAt strCut bytes ofBytes len nth cut fits app rep setEl look upd ne strNe H
  (try cbv)
  repeat' (first | (refine callI (hG _ _ _ (g141 e0 e1 l es he hl f first cap p hp)) ?_; intro b141 hb141; (try cbv)) | fail)
  rw [hr, H.le, hb141, idxGo_nonneg]

theorem g110 (x0 x1 : D) (f : Nat) (first : List DV) (cap : List D) (b : Bool) (hp : GG f (first ++ [(true, [x0, x1])] ++ cap.map fun d => (false, [d])) (.one (false, [.bool b]))) : GG 110 [(true, [x0, x1]), (false, [.ro [.fn f first cap] 0])] (.one (false, [.bool (!b)])) := by
  obtain ⟨b', hb'⟩ : ∃ b', b' = !b := ⟨_, rfl⟩
  rw [← hb']
  refine start c110 rfl ?_
  intro r' hr G hG hGW lt le eq add sub mul quo rem conv strEq strLt strCat strLen strAt strCut bytes ofBytes len nth cut fits app rep setEl look upd ne strNe H
  (try cbv)
  repeat' (first | (refine callB (hG _ _ _ hp) ?_; intro c hc; (try cbv)) | fail)
  rw [hr, hb', hc]
  cases b <;> rfl

theorem g85 {β : Type} (e0 e1 : β → D) (l : List β) (es : List (List D)) (he : es = l.map fun x => [e0 x, e1 x]) (hl : l.length ≤ maxLen) (f : Nat) (first : List DV) (cap : List D) (p : β → Bool) (hp : ∀ x ∈ l, GG f (first ++ [(true, [e0 x, e1 x])] ++ cap.map fun d => (false, [d])) (.one (false, [.bool (p x)]))) :
    GG 85 [(false, [.row 2 es]), (false, [.fn f first cap])] (.one (false, [.bool (l.all p)])) := by
  refine start c85 rfl ?_
  intro r' hr G hG hGW lt le eq add sub mul quo rem conv strEq strLt strCat strLen strAt strCut bytes ofBytes len nth cut fits app rep setEl look upd ne strNe H
  (try cbv)
  repeat' (first | (refine callB (hG _ _ _ (g109 e0 e1 l es he hl 110 [] [.ro [.fn f first cap] 0] (fun x => !p x) (fun x hx => g110 (e0 x) (e1 x) f first cap (p x) (hp x hx)))) ?_; intro b109 hb109; (try cbv)) | fail)
  rw [hr, hb109, ← any_not]
  cases l.any fun x => !p x <;> rfl

theorem g147 {β : Type} (e0 e1 : β → D) (l : List β) (es : List (List D)) (he : es = l.map fun x => [e0 x, e1 x]) (hl : l.length ≤ maxLen) (f : Nat) (first : List DV) (cap : List D) (p : β → Bool) (hp : ∀ x ∈ l, GG f (first ++ [(true, [e0 x, e1 x])] ++ cap.map fun d => (false, [d])) (.one (false, [.bool (p x)]))) :
    GG 147 [(false, [.row 2 es]), (false, [.fn f first cap])] (.one (false, [.int .i64 (idxGo p 0 l)])) := by
  refine start c147 rfl ?_
  intro r' hr G hG hGW lt le eq add sub mul quo rem conv strEq strLt strCat strLen strAt strCut bytes ofBytes len nth cut fits app rep setEl look upd ne strNe H
  cbv
  obtain ⟨N, hN⟩ : ∃ N, N = l.length := ⟨_, rfl⟩
  obtain ⟨P, hP⟩ : ∃ P : Nat → Prop, ∀ k, P k = (r' = .one (false, [.int .i64 (idxGo p k (l.drop k))])) := ⟨_, fun _ => rfl⟩
  refine loopU N (fun k => [(0, .v false [.d (.row 2 es)]), (1, .v false [.d (.fn f first cap)]), (7, .v false [.d (.int .i64 (len es))]), (8, .v false [.d (.int .i64 (Int.ofNat k))])]) [] P ⟨rfl, rfl⟩ ?_ ?_
  · rw [hP]; exact hr
  · intro k hk hr
    rw [hN] at hk
    rw [hP] at hr
    rcases hd : l.drop k with _ | ⟨x, r⟩
    · have h1 := H.rowNil he hd hk
      (try cbv)
      repeat' (first | (rw [h1]; (try cbv)) | (split <;> rename_i heq <;> (try rw [heq]) <;> (try cbv)) | fail)
      rw [hr, hd]
      rfl
    · obtain ⟨h1, h2, h3, h4, h5⟩ := H.rowCons he hl hd
      have hx : x ∈ l := List.mem_of_getElem? (drop_cons hd).2.1
      have hpx := hp x hx
      generalize p x = b at hpx
      rw [hd] at hr
      (try cbv)
      repeat' (first | (rw [h1]; (try cbv)) | (rw [h2]; (try cbv)) | (refine ⟨_, hG _ _ _ (hp x hx), rfl, ?_⟩; generalize hb : p x = b; (try cbv)) | fail)
      simp only [idxGo, hb] at hr
      cases b
      · cbv
        exact ⟨by rw [hN]; exact h5, by rw [hP, h4]; exact hr, by rw [h3], trivial⟩
      · cbv
        rw [hr]

theorem g120 {β : Type} (e0 e1 : β → D) (l : List β) (es : List (List D)) (he : es = l.map fun x => [e0 x, e1 x]) (hl : l.length ≤ maxLen) (f : Nat) (first : List DV) (cap : List D) (p : β → Bool) (hp : ∀ x ∈ l, GG f (first ++ [(true, [e0 x, e1 x])] ++ cap.map fun d => (false, [d])) (.one (false, [.bool (p x)]))) :
    GG 120 [(false, [.row 2 es]), (false, [.fn f first cap])] (.one (false, [.bool (l.any p)])) := by
  refine start c120 rfl ?_
  intro r' hr G hG hGW lt le eq add sub mul quo rem conv strEq strLt strCat strLen strAt strCut bytes ofBytes len nth cut fits app rep setEl look upd ne strNe H
  (try cbv)
  repeat' (first | (refine callI (hG _ _ _ (g147 e0 e1 l es he hl f first cap p hp)) ?_; intro b147 hb147; (try cbv)) | fail)
  rw [hr, H.le, hb147, idxGo_nonneg]

theorem g121 (x0 x1 : D) (f : Nat) (first : List DV) (cap : List D) (b : Bool) (hp : GG f (first ++ [(true, [x0, x1])] ++ cap.map fun d => (false, [d])) (.one (false, [.bool b]))) : GG 121 [(true, [x0, x1]), (false, [.ro [.fn f first cap] 0])] (.one (false, [.bool (!b)])) := by
  obtain ⟨b', hb'⟩ : ∃ b', b' = !b := ⟨_, rfl⟩
  rw [← hb']
  refine start c121 rfl ?_
  intro r' hr G hG hGW lt le eq add sub mul quo rem conv strEq strLt strCat strLen strAt strCut bytes ofBytes len nth cut fits app rep setEl look upd ne strNe H
  (try cbv)
  repeat' (first | (refine callB (hG _ _ _ hp) ?_; intro c hc; (try cbv)) | fail)
  rw [hr, hb', hc]
  cases b <;> rfl

theorem g92 {β : Type} (e0 e1 : β → D) (l : List β) (es : List (List D)) (he : es = l.map fun x => [e0 x, e1 x]) (hl : l.length ≤ maxLen) (f : Nat) (first : List DV) (cap : List D) (p : β → Bool) (hp : ∀ x ∈ l, GG f (first ++ [(true, [e0 x, e1 x])] ++ cap.map fun d => (false, [d])) (.one (false, [.bool (p x)]))) :
    GG 92 [(false, [.row 2 es]), (false, [.fn f first cap])] (.one (false, [.bool (l.all p)])) := by
  refine start c92 rfl ?_
  intro r' hr G hG hGW lt le eq add sub mul quo rem conv strEq strLt strCat strLen strAt strCut bytes ofBytes len nth cut fits app rep setEl look upd ne strNe H
  (try cbv)
  repeat' (first | (refine callB (hG _ _ _ (g120 e0 e1 l es he hl 121 [] [.ro [.fn f first cap] 0] (fun x => !p x) (fun x hx => g121 (e0 x) (e1 x) f first cap (p x) (hp x hx)))) ?_; intro b120 hb120; (try cbv)) | fail)
  rw [hr, hb120, ← any_not]
  cases l.any fun x => !p x <;> rfl

theorem g153 {β : Type} (e0 : β → D) (l : List β) (es : List (List D)) (he : es = l.map fun x => [e0 x]) (hl : l.length ≤ maxLen) (f : Nat) (first : List DV) (cap : List D) (p : β → Bool) (hp : ∀ x ∈ l, GG f (first ++ [(false, [e0 x])] ++ cap.map fun d => (false, [d])) (.one (false, [.bool (p x)]))) :
    GG 153 [(false, [.row 1 es]), (false, [.fn f first cap])] (.one (false, [.int .i64 (idxGo p 0 l)])) := by
  refine start c153 rfl ?_
  intro r' hr G hG hGW lt le eq add sub mul quo rem conv strEq strLt strCat strLen strAt strCut bytes ofBytes len nth cut fits app rep setEl look upd ne strNe H
  cbv
  obtain ⟨N, hN⟩ : ∃ N, N = l.length := ⟨_, rfl⟩
  obtain ⟨P, hP⟩ : ∃ P : Nat → Prop, ∀ k, P k = (r' = .one (false, [.int .i64 (idxGo p k (l.drop k))])) := ⟨_, fun _ => rfl⟩
  refine loopU N (fun k => [(0, .v false [.d (.row 1 es)]), (1, .v false [.d (.fn f first cap)]), (7, .v false [.d (.int .i64 (len es))]), (8, .v false [.d (.int .i64 (Int.ofNat k))])]) [] P ⟨rfl, rfl⟩ ?_ ?_
  · rw [hP]; exact hr
  · intro k hk hr
    rw [hN] at hk
    rw [hP] at hr
    rcases hd : l.drop k with _ | ⟨x, r⟩
    · have h1 := H.rowNil he hd hk
      (try cbv)
      repeat' (first | (rw [h1]; (try cbv)) | (split <;> rename_i heq <;> (try rw [heq]) <;> (try cbv)) | fail)
      rw [hr, hd]
      rfl
    · obtain ⟨h1, h2, h3, h4, h5⟩ := H.rowCons he hl hd
      have hx : x ∈ l := List.mem_of_getElem? (drop_cons hd).2.1
      have hpx := hp x hx
      generalize p x = b at hpx
      rw [hd] at hr
      (try cbv)
      repeat' (first | (rw [h1]; (try cbv)) | (rw [h2]; (try cbv)) | (refine ⟨_, hG _ _ _ (hp x hx), rfl, ?_⟩; generalize hb : p x = b; (try cbv)) | fail)
      simp only [idxGo, hb] at hr
      cases b
      · cbv
        exact ⟨by rw [hN]; exact h5, by rw [hP, h4]; exact hr, by rw [h3], trivial⟩
      · cbv
        rw [hr]

theorem g135 {β : Type} (e0 : β → D) (l : List β) (es : List (List D)) (he : es = l.map fun x => [e0 x]) (hl : l.length ≤ maxLen) (f : Nat) (first : List DV) (cap : List D) (p : β → Bool) (hp : ∀ x ∈ l, GG f (first ++ [(false, [e0 x])] ++ cap.map fun d => (false, [d])) (.one (false, [.bool (p x)]))) :
    GG 135 [(false, [.row 1 es]), (false, [.fn f first cap])] (.one (false, [.bool (l.any p)])) := by
  refine start c135 rfl ?_
  intro r' hr G hG hGW lt le eq add sub mul quo rem conv strEq strLt strCat strLen strAt strCut bytes ofBytes len nth cut fits app rep setEl look upd ne strNe H
  (try cbv)
  repeat' (first | (refine callI (hG _ _ _ (g153 e0 l es he hl f first cap p hp)) ?_; intro b153 hb153; (try cbv)) | fail)
  rw [hr, H.le, hb153, idxGo_nonneg]

theorem g136 (x0 : D) (f : Nat) (first : List DV) (cap : List D) (b : Bool) (hp : GG f (first ++ [(false, [x0])] ++ cap.map fun d => (false, [d])) (.one (false, [.bool b]))) : GG 136 [(false, [x0]), (false, [.ro [.fn f first cap] 0])] (.one (false, [.bool (!b)])) := by
  obtain ⟨b', hb'⟩ : ∃ b', b' = !b := ⟨_, rfl⟩
  rw [← hb']
  refine start c136 rfl ?_
  intro r' hr G hG hGW lt le eq add sub mul quo rem conv strEq strLt strCat strLen strAt strCut bytes ofBytes len nth cut fits app rep setEl look upd ne strNe H
  (try cbv)
  repeat' (first | (refine callB (hG _ _ _ hp) ?_; intro c hc; (try cbv)) | fail)
  rw [hr, hb', hc]
  cases b <;> rfl

theorem g104 {β : Type} (e0 : β → D) (l : List β) (es : List (List D)) (he : es = l.map fun x => [e0 x]) (hl : l.length ≤ maxLen) (f : Nat) (first : List DV) (cap : List D) (p : β → Bool) (hp : ∀ x ∈ l, GG f (first ++ [(false, [e0 x])] ++ cap.map fun d => (false, [d])) (.one (false, [.bool (p x)]))) :
    GG 104 [(false, [.row 1 es]), (false, [.fn f first cap])] (.one (false, [.bool (l.all p)])) := by
  refine start c104 rfl ?_
  intro r' hr G hG hGW lt le eq add sub mul quo rem conv strEq strLt strCat strLen strAt strCut bytes ofBytes len nth cut fits app rep setEl look upd ne strNe H
  (try cbv)
  repeat' (first | (refine callB (hG _ _ _ (g135 e0 l es he hl 136 [] [.ro [.fn f first cap] 0] (fun x => !p x) (fun x hx => g136 (e0 x) f first cap (p x) (hp x hx)))) ?_; intro b135 hb135; (try cbv)) | fail)
  rw [hr, hb135, ← any_not]
  cases l.any fun x => !p x <;> rfl

theorem g162 {β : Type} (e0 e1 e2 e3 e4 : β → D) (l : List β) (es : List (List D)) (he : es = l.map fun x => [e0 x, e1 x, e2 x, e3 x, e4 x]) (hl : l.length ≤ maxLen) (f : Nat) (first : List DV) (cap : List D) (p : β → Bool) (hp : ∀ x ∈ l, GG f (first ++ [(true, [e0 x, e1 x, e2 x, e3 x, e4 x])] ++ cap.map fun d => (false, [d])) (.one (false, [.bool (p x)]))) :
    GG 162 [(false, [.row 5 es]), (false, [.fn f first cap])] (.one (false, [.int .i64 (idxGo p 0 l)])) := by
  refine start c162 rfl ?_
  intro r' hr G hG hGW lt le eq add sub mul quo rem conv strEq strLt strCat strLen strAt strCut bytes ofBytes len nth cut fits app rep setEl look upd ne strNe H
  cbv
  obtain ⟨N, hN⟩ : ∃ N, N = l.length := ⟨_, rfl⟩
  obtain ⟨P, hP⟩ : ∃ P : Nat → Prop, ∀ k, P k = (r' = .one (false, [.int .i64 (idxGo p k (l.drop k))])) := ⟨_, fun _ => rfl⟩
  refine loopU N (fun k => [(0, .v false [.d (.row 5 es)]), (1, .v false [.d (.fn f first cap)]), (7, .v false [.d (.int .i64 (len es))]), (8, .v false [.d (.int .i64 (Int.ofNat k))])]) [] P ⟨rfl, rfl⟩ ?_ ?_
  · rw [hP]; exact hr
  · intro k hk hr
    rw [hN] at hk
    rw [hP] at hr
    rcases hd : l.drop k with _ | ⟨x, r⟩
    · have h1 := H.rowNil he hd hk
      (try cbv)
      repeat' (first | (rw [h1]; (try cbv)) | (split <;> rename_i heq <;> (try rw [heq]) <;> (try cbv)) | fail)
      rw [hr, hd]
      rfl
    · obtain ⟨h1, h2, h3, h4, h5⟩ := H.rowCons he hl hd
      have hx : x ∈ l := List.mem_of_getElem? (drop_cons hd).2.1
      have hpx := hp x hx
      generalize p x = b at hpx
      rw [hd] at hr
      (try cbv)
      repeat' (first | (rw [h1]; (try cbv)) | (rw [h2]; (try cbv)) | (refine ⟨_, hG _ _ _ (hp x hx), rfl, ?_⟩; generalize hb : p x = b; (try cbv)) | fail)
      simp only [idxGo, hb] at hr
      cases b
      · cbv
        exact ⟨by rw [hN]; exact h5, by rw [hP, h4]; exact hr, by rw [h3], trivial⟩
      · cbv
        rw [hr]

theorem g145 {β : Type} (e0 e1 e2 e3 e4 : β → D) (l : List β) (es : List (List D)) (he : es = l.map fun x => [e0 x, e1 x, e2 x, e3 x, e4 x]) (hl : l.length ≤ maxLen) (f : Nat) (first : List DV) (cap : List D) (p : β → Bool) (hp : ∀ x ∈ l, GG f (first ++ [(true, [e0 x, e1 x, e2 x, e3 x, e4 x])] ++ cap.map fun d => (false, [d])) (.one (false, [.bool (p x)]))) :
    GG 145 [(false, [.row 5 es]), (false, [.fn f first cap])] (.one (false, [.bool (l.any p)])) := by
  refine start c145 rfl ?_
  intro r' hr G hG hGW lt le eq add sub mul quo rem conv strEq strLt strCat strLen strAt strCut bytes ofBytes len nth cut fits app rep setEl look upd ne strNe H
  (try cbv)
  repeat' (first | (refine callI (hG _ _ _ (g162 e0 e1 e2 e3 e4 l es he hl f first cap p hp)) ?_; intro b162 hb162; (try cbv)) | fail)
  rw [hr, H.le, hb162, idxGo_nonneg]

end Go.Vi
namespace Go.Vi
open Go.Proofs
set_option maxRecDepth 100000
set_option linter.unusedVariables false
set_option linter.unusedSimpArgs false
def inR (n lo hi : Int) : Bool := decide (lo ≤ n) && decide (n ≤ hi)
def valOk (n : Int) : Bool := inR n 0 999999999
theorem textOk_eq (s : ByteArray) : textOk s = (s.data.toList.all okByte && inR s.size 1 32) := rfl
theorem g84 (n lo hi : Int) : GG 84 [(false, [.int .i64 n]), (false, [.int .i64 lo]), (false, [.int .i64 hi])] (.one (false, [.bool (inR n lo hi)])) := by
  refine start c84 rfl ?_
  intro r' hr G hG hGW lt le eq add sub mul quo rem conv strEq strLt strCat strLen strAt strCut bytes ofBytes len nth cut fits app rep setEl look upd ne strNe H
  (try cbv)
  repeat' (first | (split <;> rename_i heq <;> (try rw [heq]) <;> (try cbv)) | fail)
  all_goals (subst hr; simp_all [H.le, inR] <;> omega)
theorem g72 (n : Int) : GG 72 [(false, [.int .i64 n])] (.one (false, [.bool (valOk n)])) := by
  refine start c72 rfl ?_
  intro r' hr G hG hGW lt le eq add sub mul quo rem conv strEq strLt strCat strLen strAt strCut bytes ofBytes len nth cut fits app rep setEl look upd ne strNe H
  (try cbv)
  repeat' (first | (refine callB (hG _ _ _ (g84 _ _ _)) ?_; intro b84 hb84; (try cbv)) | (split <;> rename_i heq <;> (try rw [heq]) <;> (try cbv)) | fail)
  rw [hr, hb84]; rfl
theorem g105 (n : Int) : GG 105 [(false, [.int .u8 n])] (.one (false, [.bool (inR n 33 126)])) := by
  refine start c105 rfl ?_
  intro r' hr G hG hGW lt le eq add sub mul quo rem conv strEq strLt strCat strLen strAt strCut bytes ofBytes len nth cut fits app rep setEl look upd ne strNe H
  (try cbv)
  repeat' (first | (split <;> rename_i heq <;> (try rw [heq]) <;> (try cbv)) | fail)
  all_goals (subst hr; simp_all [H.le, inR] <;> omega)
theorem g78 (s : ByteArray) (hs : s.size ≤ maxLen) : GG 78 [(false, [.str s])] (.one (false, [.bool (textOk s)])) := by
  refine start c78 rfl ?_
  intro r' hr G hG hGW lt le eq add sub mul quo rem conv strEq strLt strCat strLen strAt strCut bytes ofBytes len nth cut fits app rep setEl look upd ne strNe H
  (try cbv)
  repeat' (first | (refine callB (hG _ _ _ (g84 _ _ _)) ?_; intro b84 hb84; (try cbv)) | (refine callB (hG _ _ _ (g104 (fun b : UInt8 => D.int .u8 b.toNat) s.data.toList (bytes s) (H.bytes s) (by simpa using hs) 105 [] [] (fun b => inR b.toNat 33 126) (fun x _ => g105 _))) ?_; intro b104 hb104; (try cbv)) | (split <;> rename_i heq <;> (try rw [heq]) <;> (try cbv)) | fail)
  · have hf : (fun b : UInt8 => inR b.toNat 33 126) = okByte := by
      funext b
      simp only [inR, okByte]
      congr 1 <;> (rw [Bool.eq_iff_iff]; simp only [decide_eq_true_eq]; omega)
    rw [hf] at hb104
    rw [H.strLen] at hb84
    rw [hr, hb104, textOk_eq, ← hb84, Bool.and_true]
  · rw [hr, textOk_eq]
    rw [H.strLen] at hb84
    rw [← hb84, Bool.and_false]
theorem g82 (t : ByteArray) (v : Int) (hs : t.size ≤ maxLen) : GG 82 [(true, [.str t, .int .i64 v])] (.one (false, [.bool (textOk t && valOk v)])) := by
  refine start c82 rfl ?_
  intro r' hr G hG hGW lt le eq add sub mul quo rem conv strEq strLt strCat strLen strAt strCut bytes ofBytes len nth cut fits app rep setEl look upd ne strNe H
  (try cbv)
  repeat' (first | (refine callB (hG _ _ _ (g78 _ hs)) ?_; intro b78 hb78; (try cbv)) | (refine callB (hG _ _ _ (g72 _)) ?_; intro b72 hb72; (try cbv)) | (split <;> rename_i heq <;> (try rw [heq]) <;> (try cbv)) | fail)
  all_goals (rw [hr, ← hb78]; first | rw [hb72]; rfl | rfl)
def txE (l : List ByteArray) (es : List (List D)) : Prop := es = l.map fun s => [.str s]
def Short (l : List ByteArray) : Prop := l.length ≤ maxLen ∧ ∀ s ∈ l, s.size ≤ maxLen
theorem g77t (l : List ByteArray) (es : List (List D)) (he : txE l es) (hl : Short l) : GG 77 [(false, [.row 1 es]), (false, [.fn 78 [] []])] (.one (false, [.bool (l.all textOk)])) :=
  g77 D.str l es he hl.1 78 [] [] textOk fun x hx => g78 x (hl.2 x hx)
def namesOk (l : List ByteArray) : Bool := inR l.length 1 5 && l.all textOk
theorem g83 (l : List ByteArray) (es : List (List D)) (he : txE l es) (hl : Short l) : GG 83 [(false, [.row 1 es])] (.one (false, [.bool (namesOk l)])) := by
  have hlen : es.length = l.length := by rw [he]; simp
  refine start c83 rfl ?_
  intro r' hr G hG hGW lt le eq add sub mul quo rem conv strEq strLt strCat strLen strAt strCut bytes ofBytes len nth cut fits app rep setEl look upd ne strNe H
  (try cbv)
  repeat' (first | (refine callB (hG _ _ _ (g84 _ _ _)) ?_; intro b84 hb84; (try cbv)) | (refine callB (hG _ _ _ (g77t l es he hl)) ?_; intro b77t hb77t; (try cbv)) | (split <;> rename_i heq <;> (try rw [heq]) <;> (try cbv)) | fail)
  all_goals (rw [hr]; unfold namesOk; rw [H.len, hlen] at hb84; rw [← hb84]; first | rw [hb77t]; rfl | rfl)
def swapOk (k o n : Int) : Bool := (decide (k = 1) || decide (k = 2)) && (valOk o && valOk n)
theorem g71 (k o n : Int) : GG 71 [(true, [.int .u8 k, .int .i64 o, .int .i64 n])] (.one (false, [.bool (swapOk k o n)])) := by
  refine start c71 rfl ?_
  intro r' hr G hG hGW lt le eq add sub mul quo rem conv strEq strLt strCat strLen strAt strCut bytes ofBytes len nth cut fits app rep setEl look upd ne strNe H
  (try cbv)
  repeat' (first | (refine callI (hG _ _ _ (g72 _)) ?_; intro b72 hb72; (try cbv)) | (refine callB (hG _ _ _ (g72 _)) ?_; intro b72 hb72; (try cbv)) | (split <;> rename_i heq <;> (try rw [heq]) <;> (try cbv)) | fail)
  all_goals (rw [hr]; simp_all [swapOk, H.eq])
theorem g91 (t : ByteArray) (sp : Int) (hs : t.size ≤ maxLen) : GG 91 [(true, [.str t, .int .i64 sp])] (.one (false, [.bool (textOk t && inR sp 0 999)])) := by
  refine start c91 rfl ?_
  intro r' hr G hG hGW lt le eq add sub mul quo rem conv strEq strLt strCat strLen strAt strCut bytes ofBytes len nth cut fits app rep setEl look upd ne strNe H
  (try cbv)
  repeat' (first | (refine callB (hG _ _ _ (g78 _ hs)) ?_; intro b78 hb78; (try cbv)) | (refine callB (hG _ _ _ (g84 _ _ _)) ?_; intro b84 hb84; (try cbv)) | (split <;> rename_i heq <;> (try rw [heq]) <;> (try cbv)) | fail)
  all_goals (rw [hr, ← hb78]; first | rw [hb84]; rfl | rfl)
end Go.Vi
namespace Go.Vi
open Go.Proofs
set_option maxRecDepth 100000
set_option linter.unusedVariables false
set_option linter.unusedSimpArgs false
def texts (l : List ByteArray) (most : Int) : Bool := l.all textOk && decide ((l.length : Int) ≤ most)
theorem txE.len {l : List ByteArray} {es : List (List D)} (he : txE l es) : es.length = l.length := by rw [he]; simp
theorem g55 (l : List ByteArray) (es : List (List D)) (he : txE l es) (hl : Short l) (most : Int) : GG 55 [(false, [.row 1 es]), (false, [.int .i64 most])] (.one (false, [.bool (texts l most)])) := by
  refine start c55 rfl ?_
  intro r' hr G hG hGW lt le eq add sub mul quo rem conv strEq strLt strCat strLen strAt strCut bytes ofBytes len nth cut fits app rep setEl look upd ne strNe H
  cbv
  obtain ⟨N, hN⟩ : ∃ N, N = l.length := ⟨_, rfl⟩
  obtain ⟨P, hP⟩ : ∃ P : Nat → Prop, ∀ k, P k = (r' = .one (false, [.bool ((l.drop k).all textOk && decide ((l.length : Int) ≤ most))])) := ⟨_, fun _ => rfl⟩
  refine loopU N (fun k => [(0, .v false [.d (.row 1 es)]), (1, .v false [.d (.int .i64 most)]), (5, .v false [.d (.int .i64 (Int.ofNat k))])]) [] P ⟨rfl, rfl⟩ ?_ ?_
  · rw [hP]; exact hr
  · intro k hk hr
    rw [hN] at hk
    rw [hP] at hr
    rcases hd : l.drop k with _ | ⟨x, r⟩
    · have h1 := H.rowNil he hd hk
      (try cbv)
      repeat' (first | (rw [h1]; (try cbv)) | (split <;> rename_i heq <;> (try rw [heq]) <;> (try cbv)) | fail)
      rw [hr, hd, H.le, H.len, he.len]
      rfl
    · obtain ⟨h1, h2, h3, h4, h5⟩ := H.rowCons he hl.1 hd
      have hx : x ∈ l := List.mem_of_getElem? (drop_cons hd).2.1
      rw [hd, List.all_cons] at hr
      (try cbv)
      repeat' (first | (rw [h1]; (try cbv)) | (rw [h2]; (try cbv)) | (refine callB (hG _ _ _ (g60 x (hl.2 x hx))) ?_; intro b60 hb60; cases b60 <;> (try cbv)) | (split <;> rename_i heq <;> (try rw [heq]) <;> (try cbv)) | fail)
      · rw [hr, ← hb60]; rfl
      · exact ⟨by rw [hN]; exact h5, by rw [hP, h4, hr, ← hb60]; rfl, by rw [h3], trivial⟩
def shortL (l : List ByteArray) (most : Int) : Bool := l.all (fun s => decide (s.size ≤ 40)) && decide ((l.length : Int) ≤ most)
theorem g16 (l : List ByteArray) (es : List (List D)) (he : txE l es) (hl : l.length ≤ maxLen) (most : Int) : GG 16 [(false, [.row 1 es]), (false, [.int .i64 most])] (.one (false, [.bool (shortL l most)])) := by
  refine start c16 rfl ?_
  intro r' hr G hG hGW lt le eq add sub mul quo rem conv strEq strLt strCat strLen strAt strCut bytes ofBytes len nth cut fits app rep setEl look upd ne strNe H
  cbv
  obtain ⟨N, hN⟩ : ∃ N, N = l.length := ⟨_, rfl⟩
  obtain ⟨P, hP⟩ : ∃ P : Nat → Prop, ∀ k, P k = (r' = .one (false, [.bool ((l.drop k).all (fun s => decide (s.size ≤ 40)) && decide ((l.length : Int) ≤ most))])) := ⟨_, fun _ => rfl⟩
  refine loopU N (fun k => [(0, .v false [.d (.row 1 es)]), (1, .v false [.d (.int .i64 most)]), (5, .v false [.d (.int .i64 (Int.ofNat k))])]) [] P ⟨rfl, rfl⟩ ?_ ?_
  · rw [hP]; exact hr
  · intro k hk hr
    rw [hN] at hk
    rw [hP] at hr
    rcases hd : l.drop k with _ | ⟨x, r⟩
    · have h1 := H.rowNil he hd hk
      (try cbv)
      repeat' (first | (rw [h1]; (try cbv)) | (split <;> rename_i heq <;> (try rw [heq]) <;> (try cbv)) | fail)
      rw [hr, hd, H.le, H.len, he.len]
      rfl
    · obtain ⟨h1, h2, h3, h4, h5⟩ := H.rowCons he hl hd
      rw [hd, List.all_cons] at hr
      (try cbv)
      repeat' (first | (rw [h1]; (try cbv)) | (rw [h2]; (try cbv)) | (split <;> rename_i heq <;> (try rw [heq]) <;> (try cbv)) | fail)
      all_goals (rw [H.lt, H.strLen] at heq; simp only [decide_eq_true_eq, decide_eq_false_iff_not] at heq)
      · rw [hr, decide_eq_false (by omega)]; rfl
      · exact ⟨by rw [hN]; exact h5, by rw [hP, h4, hr, decide_eq_true (by omega)]; rfl, by rw [h3], trivial⟩

structure Swp where
  k : Int
  o : Int
  n : Int
deriving DecidableEq
structure Mrk where
  k : Int
  v : Int
deriving DecidableEq
def Swp.ok (s : Swp) : Bool := swapOk s.k s.o s.n
def swE (l : List Swp) (es : List (List D)) : Prop := es = l.map fun x => [.int .u8 x.k, .int .i64 x.o, .int .i64 x.n]
theorem swE.len {l : List Swp} {es : List (List D)} (he : swE l es) : es.length = l.length := by rw [he]; simp
def swapsFault (l : List Swp) : Int := if 20 < l.length then 3 else if l.all Swp.ok then 0 else 1
theorem g27 (l : List Swp) (es : List (List D)) (he : swE l es) (hl : l.length ≤ maxLen) : GG 27 [(false, [.row 3 es])] (.one (false, [.int .i64 (swapsFault l)])) := by
  refine start c27 rfl ?_
  intro r' hr G hG hGW lt le eq add sub mul quo rem conv strEq strLt strCat strLen strAt strCut bytes ofBytes len nth cut fits app rep setEl look upd ne strNe H
  cbv
  cases h0 : lt 20 (len es)
  · rw [H.lt, H.len, he.len, decide_eq_false_iff_not] at h0
    have hr : r' = .one (false, [.int .i64 (if l.all Swp.ok then 0 else 1)]) := by rw [hr, swapsFault, if_neg (by omega)]
    cbv
    obtain ⟨N, hN⟩ : ∃ N, N = l.length := ⟨_, rfl⟩
    obtain ⟨P, hP⟩ : ∃ P : Nat → Prop, ∀ k, P k = (r' = .one (false, [.int .i64 (if (l.drop k).all Swp.ok then 0 else 1)])) := ⟨_, fun _ => rfl⟩
    refine loopU N (fun k => [(0, .v false [.d (.row 3 es)]), (3, .v false [.d (.int .i64 (Int.ofNat k))])]) [] P ⟨rfl, rfl⟩ ?_ ?_
    · rw [hP]; exact hr
    · intro k hk hr
      rw [hN] at hk
      rw [hP] at hr
      rcases hd : l.drop k with _ | ⟨x, r⟩
      · have h1 := H.rowNil he hd hk
        (try cbv)
        repeat' (first | (rw [h1]; (try cbv)) | (split <;> rename_i heq <;> (try rw [heq]) <;> (try cbv)) | fail)
        rw [hr, hd]
        rfl
      · obtain ⟨h1, h2, h3, h4, h5⟩ := H.rowCons he hl hd
        rw [hd, List.all_cons] at hr
        (try cbv)
        repeat' (first | (rw [h1]; (try cbv)) | (rw [h2]; (try cbv)) | (refine callB (hG _ _ _ (g28 _ _ _)) ?_; intro b28 hb28; cases b28 <;> (try cbv)) | (split <;> rename_i heq <;> (try rw [heq]) <;> (try cbv)) | fail)
        all_goals first | (rw [hr]; clear hG; (try clear hP); simp_all [Swp.ok, swapOk, valOk, H.ne, H.eq, H.lt, H.le, H.strEq, H.strNe, inR]; done) | (rw [hr]; clear hG; (try clear hP); simp_all [Swp.ok, swapOk, valOk, H.ne, H.eq, H.lt, H.le, H.strEq, H.strNe, inR] <;> omega) | (refine ⟨by rw [hN]; exact h5, ?_, by rw [h3], trivial⟩; rw [hP, h4, hr]; clear hG hP; rfl) | (refine ⟨by rw [hN]; exact h5, ?_, by rw [h3], trivial⟩; rw [hP, h4, hr]; clear hG hP; simp_all [Swp.ok, swapOk, valOk, H.ne, H.eq, H.lt, H.le, H.strEq, H.strNe, inR]; done) | (refine ⟨by rw [hN]; exact h5, ?_, by rw [h3], trivial⟩; rw [hP, h4, hr]; clear hG hP; simp_all [Swp.ok, swapOk, valOk, H.ne, H.eq, H.lt, H.le, H.strEq, H.strNe, inR] <;> omega)
  · rw [H.lt, H.len, he.len, decide_eq_true_eq] at h0
    have h9 : 20 < l.length := by exact_mod_cast h0
    cbv
    rw [hr, swapsFault, if_pos h9]
end Go.Vi
namespace Go.Vi
open Go.Proofs
set_option maxRecDepth 100000
set_option linter.unusedVariables false
set_option linter.unusedSimpArgs false
theorem g137 (l : List Swp) (es : List (List D)) (he : swE l es) (hl : l.length ≤ maxLen) (v : Swp) : GG 137 [(false, [.row 3 es]), (true, [.int .u8 v.k, .int .i64 v.o, .int .i64 v.n])] (.one (false, [.int .i64 (idxGo (fun s => decide (s = v)) 0 l)])) := by
  refine start c137 rfl ?_
  intro r' hr G hG hGW lt le eq add sub mul quo rem conv strEq strLt strCat strLen strAt strCut bytes ofBytes len nth cut fits app rep setEl look upd ne strNe H
  cbv
  obtain ⟨N, hN⟩ : ∃ N, N = l.length := ⟨_, rfl⟩
  obtain ⟨P, hP⟩ : ∃ P : Nat → Prop, ∀ k, P k = (r' = .one (false, [.int .i64 (idxGo (fun s => decide (s = v)) k (l.drop k))])) := ⟨_, fun _ => rfl⟩
  refine loopU N (fun k => [(0, .v false [.d (.row 3 es)]), (3, .v false [.loc 0 0]), (7, .v false [.d (.int .i64 (len es))]), (8, .v false [.d (.int .i64 (Int.ofNat k))])]) [(0, .blk [.d (.int .u8 v.k), .d (.int .i64 v.o), .d (.int .i64 v.n)])] P ⟨rfl, rfl⟩ ?_ ?_
  · rw [hP]; exact hr
  · intro k hk hr
    rw [hN] at hk
    rw [hP] at hr
    rcases hd : l.drop k with _ | ⟨x, r⟩
    · have h1 := H.rowNil he hd hk
      (try cbv)
      repeat' (first | (rw [h1]; (try cbv)) | (split <;> rename_i heq <;> (try rw [heq]) <;> (try cbv)) | fail)
      rw [hr, hd]
      rfl
    · obtain ⟨h1, h2, h3, h4, h5⟩ := H.rowCons he hl hd
      rw [hd] at hr
      (try cbv)
      repeat' (first | (rw [h1]; (try cbv)) | (rw [h2]; (try cbv)) | fail)
      have hx : decide (x = v) = (eq v.k x.k && (eq v.o x.o && eq v.n x.n)) := by
        rw [H.eq, H.eq, H.eq, Bool.eq_iff_iff]
        obtain ⟨a, b, c⟩ := x
        obtain ⟨a', b', c'⟩ := v
        simp
        constructor
        · rintro ⟨rfl, rfl, rfl⟩; exact ⟨rfl, rfl, rfl⟩
        · rintro ⟨rfl, rfl, rfl⟩; exact ⟨rfl, rfl, rfl⟩
      simp only [idxGo, hx] at hr
      generalize eq v.k x.k = c1 at hr ⊢
      generalize eq v.o x.o = c2 at hr ⊢
      generalize eq v.n x.n = c3 at hr ⊢
      cases c1 <;> cases c2 <;> cases c3 <;> cbv <;> simp only [Bool.and_true, Bool.and_false, Bool.true_and, Bool.false_and] at hr
      all_goals first | exact ⟨by rw [hN]; exact h5, by rw [hP, h4]; exact hr, by rw [h3], trivial⟩ | rw [hr]
theorem g106 (l : List Swp) (es : List (List D)) (he : swE l es) (hl : l.length ≤ maxLen) (v : Swp) : GG 106 [(false, [.row 3 es]), (true, [.int .u8 v.k, .int .i64 v.o, .int .i64 v.n])] (.one (false, [.bool (l.any fun s => decide (s = v))])) := by
  refine start c106 rfl ?_
  intro r' hr G hG hGW lt le eq add sub mul quo rem conv strEq strLt strCat strLen strAt strCut bytes ofBytes len nth cut fits app rep setEl look upd ne strNe H
  (try cbv)
  repeat' (first | (refine callI (hG _ _ _ (g137 l es he hl v)) ?_; intro b137 hb137; (try cbv)) | fail)
  rw [hr, H.le, hb137, idxGo_nonneg]
def mkE (l : List Mrk) (es : List (List D)) : Prop := es = l.map fun x => [.int .u8 x.k, .int .i64 x.v]
/-- May a mark become another one? -/
def mayB (l : List Swp) (a b : Mrk) : Bool := decide (a = b) || (decide (a.k = b.k) && l.any fun s => decide (s = ⟨a.k, a.v, b.v⟩))
theorem g79 (m : D) (l : List Swp) (es : List (List D)) (he : swE l es) (hl : l.length ≤ maxLen) (a b : Mrk) :
    GG 79 [(true, [m, .row 3 es]), (true, [.int .u8 a.k, .int .i64 a.v]), (true, [.int .u8 b.k, .int .i64 b.v])] (.one (false, [.bool (mayB l a b)])) := by
  obtain ⟨ak, av⟩ := a
  obtain ⟨bk, bv⟩ := b
  have h106 := g106 l es he hl ⟨ak, av, bv⟩
  have hm : mayB l ⟨ak, av⟩ ⟨bk, bv⟩ = ((decide (ak = bk) && decide (av = bv)) || (decide (ak = bk) && l.any fun s => decide (s = ⟨ak, av, bv⟩))) := by
    simp [mayB]
  rw [hm]
  generalize hc : (l.any fun s => decide (s = (⟨ak, av, bv⟩ : Swp))) = c at h106 ⊢
  dsimp only at h106 ⊢
  refine start c79 rfl ?_
  intro r' hr G hG hGW lt le eq add sub mul quo rem conv strEq strLt strCat strLen strAt strCut bytes ofBytes len nth cut fits app rep setEl look upd ne strNe H
  rw [← H.eq, ← H.eq] at hr
  cbv
  cases hE1 : eq ak bk <;> cases hE2 : eq av bv <;> rw [hE1, hE2] at hr
  all_goals cbv
  all_goals (repeat' (first | (rw [hE1]; (try cbv)) | (rw [hE2]; (try cbv)) | (refine callB (hG _ _ _ h106) ?_; intro d hd; (try cbv))))
  all_goals (rw [hr]; (try rw [hd]); rfl)
/-- Two lists, one by one. -/
def eqGo (p : Mrk → Mrk → Bool) : List Mrk → List Mrk → Bool
  | [], [] => true
  | a :: r, b :: q => p a b && eqGo p r q
  | _, _ => false
theorem eqGo_len (p : Mrk → Mrk → Bool) : ∀ (a b : List Mrk), a.length ≠ b.length → eqGo p a b = false
  | [], [], h => absurd rfl h
  | [], _ :: _, _ => rfl
  | _ :: _, [], _ => rfl
  | a :: r, b :: q, h => by simp [eqGo, eqGo_len p r q (by simpa using h)]
theorem mkE.len {l : List Mrk} {es : List (List D)} (he : mkE l es) : es.length = l.length := by rw [he]; simp
theorem drop_both {α β : Type} {a r : List α} {x : α} {b : List β} {k : Nat} (hl : a.length = b.length) (h : a.drop k = x :: r) : ∃ y q, b.drop k = y :: q := by
  obtain ⟨h1, _, _⟩ := drop_cons h
  exact ⟨_, _, List.drop_eq_getElem_cons (by omega)⟩
theorem g161 (a b : List Mrk) (ea eb : List (List D)) (hea : mkE a ea) (heb : mkE b eb) (ha : a.length ≤ maxLen) (hb : b.length ≤ maxLen) (f : Nat) (first : List DV) (cap : List D) (p : Mrk → Mrk → Bool)
    (hp : ∀ x y, GG f (first ++ [(true, [.int .u8 x.k, .int .i64 x.v]), (true, [.int .u8 y.k, .int .i64 y.v])] ++ cap.map fun d => (false, [d])) (.one (false, [.bool (p x y)]))) :
    GG 161 [(false, [.row 2 ea]), (false, [.row 2 eb]), (false, [.fn f first cap])] (.one (false, [.bool (eqGo p a b)])) := by
  refine start c161 rfl ?_
  intro r' hr G hG hGW lt le eq add sub mul quo rem conv strEq strLt strCat strLen strAt strCut bytes ofBytes len nth cut fits app rep setEl look upd ne strNe H
  cbv
  cases h0 : ne (len ea) (len eb)
  · have hlen : a.length = b.length := by
      rw [H.ne, H.len, H.len, hea.len, heb.len] at h0
      simp at h0
      omega
    cbv
    obtain ⟨N, hN⟩ : ∃ N, N = a.length := ⟨_, rfl⟩
    obtain ⟨P, hP⟩ : ∃ P : Nat → Prop, ∀ k, P k = (r' = .one (false, [.bool (eqGo p (a.drop k) (b.drop k))])) := ⟨_, fun _ => rfl⟩
    refine loopU N (fun k => [(1, .v false [.d (.row 2 eb)]), (2, .v false [.d (.fn f first cap)]), (15, .v false [.d (.row 2 ea)]), (16, .v false [.d (.int .i64 (len ea))]), (17, .v false [.d (.int .i64 (Int.ofNat k))])]) [] P ⟨rfl, rfl⟩ ?_ ?_
    · rw [hP]; exact hr
    · intro k hk hr
      rw [hN] at hk
      rw [hP] at hr
      rcases hd : a.drop k with _ | ⟨x, r⟩
      · have h1 := H.rowNil hea hd hk
        have hd2 : b.drop k = [] := by
          have := drop_nil hd hk
          exact List.drop_of_length_le (by omega)
        (try cbv)
        repeat' (first | (rw [h1]; (try cbv)) | (split <;> rename_i heq <;> (try rw [heq]) <;> (try cbv)) | fail)
        rw [hr, hd, hd2]
        rfl
      · obtain ⟨y, q, hd2⟩ := drop_both hlen hd
        obtain ⟨h1, h2, h3, h4, h5⟩ := H.rowCons hea ha hd
        obtain ⟨_, h2', _, h4', _⟩ := H.rowCons heb hb hd2
        rw [hd, hd2, eqGo] at hr
        have hpx := hp x y
        (try cbv)
        repeat' (first | (rw [h1]; (try cbv)) | (rw [h2]; (try cbv)) | (rw [h2']; (try cbv)) | fail)
        refine callB (hG _ _ _ hpx) ?_
        intro c hc
        rw [← hc] at hr
        cases c <;> cbv
        · rw [hr]; rfl
        · exact ⟨by rw [hN]; exact h5, by rw [hP, h4, h4']; exact hr, by rw [h3], trivial⟩
  · have hlen : a.length ≠ b.length := by
      rw [H.ne, H.len, H.len, hea.len, heb.len] at h0
      simp at h0
      omega
    cbv
    rw [hr, eqGo_len p a b hlen]
theorem g144 (m : D) (l : List Swp) (es : List (List D)) (he : swE l es) (hl : l.length ≤ maxLen) (a b : List Mrk) (ea eb : List (List D)) (hea : mkE a ea) (heb : mkE b eb) (ha : a.length ≤ maxLen) (hb : b.length ≤ maxLen) :
    GG 144 [(true, [m, .row 3 es]), (false, [.row 2 ea]), (false, [.row 2 eb])] (.one (false, [.bool (eqGo (mayB l) a b)])) := by
  refine start c144 rfl ?_
  intro r' hr G hG hGW lt le eq add sub mul quo rem conv strEq strLt strCat strLen strAt strCut bytes ofBytes len nth cut fits app rep setEl look upd ne strNe H
  (try cbv)
  repeat' (first | (refine callB (hG _ _ _ (g161 a b ea eb hea heb ha hb 79 [(true, [m, .row 3 es])] [] (mayB l) (fun x y => g79 m l es he hl x y))) ?_; intro b161 hb161; (try cbv)) | fail)
  rw [hr, hb161]
/-- The same, by the reference. -/
def becomes (l : List Swp) (a b : Mrk) : Bool := decide (a = b) || l.any fun s => decide (a.k = b.k) && (decide (s.k = a.k) && (decide (s.o = a.v) && decide (s.n = b.v)))
theorem g56 (l : List Swp) (es : List (List D)) (he : swE l es) (hl : l.length ≤ maxLen) (a b : Mrk) :
    GG 56 [(false, [.row 3 es]), (true, [.int .u8 a.k, .int .i64 a.v]), (true, [.int .u8 b.k, .int .i64 b.v])] (.one (false, [.bool (becomes l a b)])) := by
  obtain ⟨ak, av⟩ := a
  obtain ⟨bk, bv⟩ := b
  have hm : becomes l ⟨ak, av⟩ ⟨bk, bv⟩ = ((decide (ak = bk) && decide (av = bv)) || l.any fun s => decide (ak = bk) && (decide (s.k = ak) && (decide (s.o = av) && decide (s.n = bv)))) := by
    simp [becomes]
  rw [hm]
  dsimp only
  refine start c56 rfl ?_
  intro r' hr G hG hGW lt le eq add sub mul quo rem conv strEq strLt strCat strLen strAt strCut bytes ofBytes len nth cut fits app rep setEl look upd ne strNe H
  rw [← H.eq, ← H.eq] at hr
  cbv
  cases hE1 : eq ak bk <;> cases hE2 : eq av bv <;> rw [hE1, hE2] at hr
  case true.true => cbv; rw [hr]; rfl
  all_goals
    cbv
    obtain ⟨N, hN⟩ : ∃ N, N = l.length := ⟨_, rfl⟩
    obtain ⟨P, hP⟩ : ∃ P : Nat → Prop, ∀ k, P k = (r' = .one (false, [.bool ((l.drop k).any fun s => decide (ak = bk) && (decide (s.k = ak) && (decide (s.o = av) && decide (s.n = bv))))])) := ⟨_, fun _ => rfl⟩
    refine loopU N (fun k => [(0, .v false [.d (.row 3 es)]), (4, .v false [.loc 0 0]), (5, .v false [.loc 1 0]), (7, .v false [.d (.int .i64 (Int.ofNat k))])]) [(0, .blk [.d (.int .u8 ak), .d (.int .i64 av)]), (1, .blk [.d (.int .u8 bk), .d (.int .i64 bv)])] P ⟨rfl, rfl⟩ ?_ ?_
    · rw [hP, ← H.eq, hE1, hr]; simp
    · intro k hk hr
      rw [hN] at hk
      rw [hP] at hr
      rcases hd : l.drop k with _ | ⟨x, r⟩
      · have h1 := H.rowNil he hd hk
        (try cbv)
        repeat' (first | (rw [h1]; (try cbv)) | (split <;> rename_i heq <;> (try rw [heq]) <;> (try cbv)) | fail)
        rw [hr, hd]
        rfl
      · obtain ⟨h1, h2, h3, h4, h5⟩ := H.rowCons he hl hd
        rw [hd, List.any_cons] at hr
        (try cbv)
        repeat' (first | (rw [h1]; (try cbv)) | (rw [h2]; (try cbv)) | (rw [hE1]; (try cbv)) | (split <;> rename_i heq <;> (try rw [heq]) <;> (try cbv)) | fail)
        all_goals first | (rw [hr]; clear hG; (try clear hP); simp_all [H.ne, H.eq, H.lt, H.le, H.strEq, H.strNe, inR]; done) | (rw [hr]; clear hG; (try clear hP); simp_all [H.ne, H.eq, H.lt, H.le, H.strEq, H.strNe, inR] <;> omega) | (refine ⟨by rw [hN]; exact h5, ?_, by rw [h3], trivial⟩; rw [hP, h4, hr]; clear hG hP; rfl) | (refine ⟨by rw [hN]; exact h5, ?_, by rw [h3], trivial⟩; rw [hP, h4, hr]; clear hG hP; simp_all [H.ne, H.eq, H.lt, H.le, H.strEq, H.strNe, inR]; done) | (refine ⟨by rw [hN]; exact h5, ?_, by rw [h3], trivial⟩; rw [hP, h4, hr]; clear hG hP; simp_all [H.ne, H.eq, H.lt, H.le, H.strEq, H.strNe, inR] <;> omega)
theorem g94 (l : List Swp) (es : List (List D)) (he : swE l es) (hl : l.length ≤ maxLen) (a b : List Mrk) (ea eb : List (List D)) (hea : mkE a ea) (heb : mkE b eb) (ha : a.length ≤ maxLen) (hb : b.length ≤ maxLen) :
    GG 94 [(false, [.row 3 es]), (false, [.row 2 ea]), (false, [.row 2 eb])] (.one (false, [.bool (eqGo (becomes l) a b)])) := by
  refine start c94 rfl ?_
  intro r' hr G hG hGW lt le eq add sub mul quo rem conv strEq strLt strCat strLen strAt strCut bytes ofBytes len nth cut fits app rep setEl look upd ne strNe H
  cbv
  cases h0 : ne (len ea) (len eb)
  · have hlen : a.length = b.length := by
      rw [H.ne, H.len, H.len, hea.len, heb.len] at h0
      simp at h0
      omega
    cbv
    obtain ⟨N, hN⟩ : ∃ N, N = a.length := ⟨_, rfl⟩
    obtain ⟨P, hP⟩ : ∃ P : Nat → Prop, ∀ k, P k = (r' = .one (false, [.bool (eqGo (becomes l) (a.drop k) (b.drop k))])) := ⟨_, fun _ => rfl⟩
    refine loopU N (fun k => [(0, .v false [.d (.row 3 es)]), (1, .v false [.d (.row 2 ea)]), (2, .v false [.d (.row 2 eb)]), (7, .v false [.d (.int .i64 (Int.ofNat k))])]) [] P ⟨rfl, rfl⟩ ?_ ?_
    · rw [hP]; exact hr
    · intro k hk hr
      rw [hN] at hk
      rw [hP] at hr
      rcases hd : a.drop k with _ | ⟨x, r⟩
      · have h1 := H.rowNil hea hd hk
        have hd2 : b.drop k = [] := by
          have := drop_nil hd hk
          exact List.drop_of_length_le (by omega)
        (try cbv)
        repeat' (first | (rw [h1]; (try cbv)) | (split <;> rename_i heq <;> (try rw [heq]) <;> (try cbv)) | fail)
        rw [hr, hd, hd2]
        rfl
      · obtain ⟨y, q, hd2⟩ := drop_both hlen hd
        obtain ⟨h1, h2, h3, h4, h5⟩ := H.rowCons hea ha hd
        obtain ⟨_, h2', _, h4', _⟩ := H.rowCons heb hb hd2
        rw [hd, hd2, eqGo] at hr
        (try cbv)
        repeat' (first | (rw [h1]; (try cbv)) | (rw [h2]; (try cbv)) | (rw [h2']; (try cbv)) | fail)
        refine callB (hG _ _ _ (g56 l es he hl x y)) ?_
        intro c hc
        rw [← hc] at hr
        cases c <;> cbv
        · rw [hr]; rfl
        · exact ⟨by rw [hN]; exact h5, by rw [hP, h4, h4']; exact hr, by rw [h3], trivial⟩
  · have hlen : a.length ≠ b.length := by
      rw [H.ne, H.len, H.len, hea.len, heb.len] at h0
      simp at h0
      omega
    cbv
    rw [hr, eqGo_len _ a b hlen]
end Go.Vi
