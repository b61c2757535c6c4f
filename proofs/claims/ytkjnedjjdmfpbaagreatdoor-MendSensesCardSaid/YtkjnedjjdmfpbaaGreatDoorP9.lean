/-
  The law MendSenses.
-/
import Derived.Test.YtkjnedjjdmfpbaaGreatDoorP8
set_option linter.unusedVariables false
set_option linter.unusedSimpArgs false
set_option linter.unusedSectionVars false
namespace Go.Vi
open Go.Proofs
set_option maxRecDepth 100000
set_option linter.unusedVariables false
set_option linter.unusedSimpArgs false
theorem lexP_kind {nums : List Num} {names : List (List ByteArray)} {nots : List ByteArray} {p : ByteArray × Mrk} (h : p ∈ lexP nums names nots) : p.2.k ≠ 0 := by
  have hn : ∀ (ls : List (List ByteArray)) (i : Nat), ∀ q ∈ namesP i ls, q.2.k ≠ 0 := by
    intro ls
    induction ls with
    | nil => intro i q hq; simp [namesP] at hq
    | cons x r ih =>
      intro i q hq
      rw [namesP, List.mem_append] at hq
      rcases hq with hq | hq
      · obtain ⟨s, _, rfl⟩ := List.mem_map.1 hq
        exact (show (2 : Int) ≠ 0 by decide)
      · exact ih _ q hq
  rw [lexP, List.mem_append, List.mem_append] at h
  rcases h with h | h | h
  · obtain ⟨s, _, rfl⟩ := List.mem_map.1 h
    exact (show (1 : Int) ≠ 0 by decide)
  · exact hn _ _ p h
  · obtain ⟨s, _, rfl⟩ := List.mem_map.1 h
    exact (show (3 : Int) ≠ 0 by decide)
theorem senseR_eq (nums : List Num) (names : List (List ByteArray)) (nots : List ByteArray) (l : List ByteArray) : senseR nums names nots l = senseM (lexP nums names nots) l := by
  rw [senseM_eq]
  induction l with
  | nil => rfl
  | cons s r ih =>
    rw [senseR, senseC] at ih
    rw [senseR, senseC, List.map_cons, List.filter_cons, List.filterMap_cons, ih]
    have key : (meansS nums names nots s).k ≠ 0 ∧ markC (lexP nums names nots) s = some (meansS nums names nots s) ∨ (meansS nums names nots s).k = 0 ∧ markC (lexP nums names nots) s = none := by
      unfold meansS markC
      cases hf : findM (lexP nums names nots) s with
      | some m =>
        refine .inl ⟨?_, rfl⟩
        obtain ⟨p, hp, rfl⟩ := Option.map_eq_some_iff.1 hf
        exact lexP_kind (List.mem_of_find?_eq_some hp)
      | none =>
        dsimp only
        by_cases h0 : 0 ≤ digS s
        · rw [if_pos h0, if_pos h0]
          exact .inl ⟨(show (1 : Int) ≠ 0 by decide), rfl⟩
        · rw [if_neg h0, if_neg h0]
          exact .inr ⟨rfl, rfl⟩
    rcases key with ⟨h1, h2⟩ | ⟨h1, h2⟩
    · rw [h2, if_pos (by simpa using h1)]
    · rw [h2, if_neg (by simpa using h1)]
theorem listedS_eq (l : List ByteArray) : listedS' [l] = listedS l := by
  unfold listedS' listedS
  simp only [List.all_cons, List.all_nil, Bool.and_true, decide_eq_true_eq]
  by_cases h : 80 < l.length
  · rw [if_neg (by omega), if_pos h]
  · rw [if_pos (by omega), if_neg h]
theorem g40 {nums : List Num} {names : List (List ByteArray)} {nots : List ByteArray} {e1 e2 e3 : List (List D)} (hx : LexIn nums names nots e1 e2 e3) : GG 40 [(true, [.row 2 e1, .row 1 e2, .row 1 e3])] (.one (false, [.int .i64 (readE nums names nots)])) := by
  have h58 := g58L hx
  obtain ⟨m, hm⟩ : ∃ m, readR nums names nots = .many [(false, [m]), (false, [.int .i64 (readE nums names nots)])] := by
    by_cases h : readE nums names nots = 0
    · rw [readR_ok h, h]; exact ⟨_, rfl⟩
    · rw [readR_bad h]; exact ⟨_, rfl⟩
  rw [hm] at h58
  generalize readE nums names nots = c at h58 ⊢
  clear hx hm
  refine start c40 rfl ?_
  intro r' hr G hG lt le eq add sub mul quo rem conv strEq strLt strCat strLen strAt strCut bytes ofBytes len nth cut fits app rep setEl look upd ne strNe H
  (try cbv)
  repeat' (first | ((refine call0 (hG _ _ _ h58) ?_); (try cbv)) | fail)
  rw [hr]
theorem thin_small {nums : List Num} {names : List (List ByteArray)} {nots : List ByteArray} {n : Nat} (h : thin nums names nots n = true) : nums.length ≤ 45 ∧ names.length ≤ 45 ∧ nots.length ≤ 45 ∧ (∀ l ∈ names, l.length ≤ 8) ∧ n ≤ 25 := by
  simp only [thin, thin1, thin2, shortL, Bool.and_eq_true, List.all_eq_true, decide_eq_true_eq] at h
  refine ⟨h.2.2.1, h.2.2.2.1, by have := h.2.2.2.2.1.2; omega, fun l hl => by have := (h.2.1 l hl).2; omega, h.2.2.2.2.2⟩
theorem g9 {nums : List Num} {names : List (List ByteArray)} {nots : List ByteArray} {e1 e2 e3 : List (List D)} (hx : LexIn nums names nots e1 e2 e3) (l : List ByteArray) (es : List (List D)) (he : txE l es) (hl : Short l) :
    GG 9 [(true, [.row 2 e1, .row 1 e2, .row 1 e3]), (false, [.row 1 es])] (.one (false, [.bool true])) := by
  have h15 := g15 nums names nots 0 e1 e2 e3 [] hx.he1 hx.he2 hx.he3 hx.hm1 hx.hm2 hx.hm3.1 (fun x h => (hx.hm4 x h).1)
  have h16 := g16 l es he hl.1 90
  have h17 := g17
  cases c1 : thin nums names nots [].length
  · rw [c1] at h15
    clear hx
    refine start c9 rfl ?_
    intro r' hr G hG lt le eq add sub mul quo rem conv strEq strLt strCat strLen strAt strCut bytes ofBytes len nth cut fits app rep setEl look upd ne strNe H
    (try cbv)
    repeat' (first | ((refine callB (hG _ _ _ h15) ?_; intro b hb; subst hb); (try cbv)) | ((refine callB (hG _ _ _ h17) ?_; intro b hb; subst hb); (try cbv)) | fail)
    rw [hr]
  cases c2 : shortL l 90
  · rw [c1] at h15
    rw [c2] at h16
    clear hx
    refine start c9 rfl ?_
    intro r' hr G hG lt le eq add sub mul quo rem conv strEq strLt strCat strLen strAt strCut bytes ofBytes len nth cut fits app rep setEl look upd ne strNe H
    (try cbv)
    repeat' (first | ((refine callB (hG _ _ _ h15) ?_; intro b hb; subst hb); (try cbv)) | ((refine callB (hG _ _ _ h16) ?_; intro b hb; subst hb); (try cbv)) | ((refine callB (hG _ _ _ h17) ?_; intro b hb; subst hb); (try cbv)) | fail)
    rw [hr]
  have hsm := thin_small c1
  obtain ⟨s1, s2, s3, s4, _⟩ := hsm
  have hl90 : l.length ≤ 90 := by
    simp only [shortL, Bool.and_eq_true, decide_eq_true_eq] at c2
    omega
  rw [c1] at h15
  rw [c2] at h16
  have h19 := g19 ⟨nums, names, nots⟩ [.row 2 e1, .row 1 e2, .row 1 e3] ⟨e1, e2, e3, hx.he1, hx.he2, hx.he3, rfl⟩ ⟨by dsimp only; omega, by dsimp only; omega, by dsimp only; omega, fun x h => by have := s4 x h; omega⟩
  have h21 := g21 l es he (by omega)
  have h40 := g40 hx
  have h26 := g26 hx l es he hl
  have h34 := g34 hx (by omega) (by omega) (by omega) (fun x h => by have := s4 x h; omega)
  have h23 := g23 l es he hl
  have h25 := g25 nums names nots e1 e2 e3 hx.he1 hx.he2 hx.he3 hx.hm1 hx.hm2 hx.hm3.1 (fun x h => (hx.hm4 x h).1) l es he (by omega) hl.2
  rw [senseRes, senseE] at h26
  by_cases h0 : readE nums names nots = 0
  · rw [if_pos h0, listedS_eq] at h26
    rw [h0] at h40 h34
    by_cases h2 : listedS l = 0
    · rw [if_pos h2] at h26
      rw [h2] at h23
      rw [senseR_eq] at h25
      have hsl := senseM_len (lexP nums names nots) l
      have h41 := g41 (senseM (lexP nums names nots) l) (senseM (lexP nums names nots) l) _ _ rfl rfl (by simp only [maxLen]; omega) (by simp only [maxLen]; omega)
      rw [decide_eq_true rfl] at h41
      generalize (senseM (lexP nums names nots) l).map (fun x => [D.int .u8 x.k, D.int .i64 x.v]) = S at h26 h25 h41
      clear hx hsl
      refine start c9 rfl ?_
      intro r' hr G hG lt le eq add sub mul quo rem conv strEq strLt strCat strLen strAt strCut bytes ofBytes len nth cut fits app rep setEl look upd ne strNe H
      have n0 : ne 0 0 = false := by rw [H.ne]; rfl
      have z0 : eq 0 0 = true := by rw [H.eq]; rfl
      (try cbv)
      repeat' (first | ((refine callB (hG _ _ _ h15) ?_; intro b hb; subst hb); (try cbv)) | ((refine callB (hG _ _ _ h16) ?_; intro b hb; subst hb); (try cbv)) | ((refine call0 (hG _ _ _ h19) ?_); (try cbv)) | ((refine callI (hG _ _ _ h40) ?_; intro b hb; subst hb); (try cbv)) | ((refine call0 (hG _ _ _ h21) ?_); (try cbv)) | ((refine call0 (hG _ _ _ h26) ?_); (try cbv)) | ((refine callI (hG _ _ _ h34) ?_; intro b hb; subst hb); (try cbv)) | (rw [n0]; (try cbv)) | (rw [z0]; (try cbv)) | ((refine callI (hG _ _ _ h23) ?_; intro b hb; subst hb); (try cbv)) | ((refine call0 (hG _ _ _ h25) ?_); (try cbv)) | ((refine callB (hG _ _ _ h41) ?_; intro b hb; subst hb); (try cbv)) | ((refine callB (hG _ _ _ h17) ?_; intro b hb; subst hb); (try cbv)) | fail)
      rw [hr]
    · rw [if_neg h2] at h26
      generalize listedS l = c at h26 h23 h2
      clear hx
      refine start c9 rfl ?_
      intro r' hr G hG lt le eq add sub mul quo rem conv strEq strLt strCat strLen strAt strCut bytes ofBytes len nth cut fits app rep setEl look upd ne strNe H
      have n0 : ne 0 0 = false := by rw [H.ne]; rfl
      have z0 : eq 0 0 = true := by rw [H.eq]; rfl
      have n1 : ne c 0 = true := by rw [H.ne]; simpa using h2
      have z1 : eq c c = true := by rw [H.eq]; simp
      have z2 : eq (len []) 0 = true := by rw [H.len, H.eq]; rfl
      (try cbv)
      repeat' (first | ((refine callB (hG _ _ _ h15) ?_; intro b hb; subst hb); (try cbv)) | ((refine callB (hG _ _ _ h16) ?_; intro b hb; subst hb); (try cbv)) | ((refine call0 (hG _ _ _ h19) ?_); (try cbv)) | ((refine callI (hG _ _ _ h40) ?_; intro b hb; subst hb); (try cbv)) | ((refine call0 (hG _ _ _ h21) ?_); (try cbv)) | ((refine call0 (hG _ _ _ h26) ?_); (try cbv)) | ((refine callI (hG _ _ _ h34) ?_; intro b hb; subst hb); (try cbv)) | (rw [n0]; (try cbv)) | (rw [z0]; (try cbv)) | ((refine callI (hG _ _ _ h23) ?_; intro b hb; subst hb); (try cbv)) | (rw [n1]; (try cbv)) | (rw [z1]; (try cbv)) | (rw [z2]; (try cbv)) | ((refine callB (hG _ _ _ h17) ?_; intro b hb; subst hb); (try cbv)) | fail)
      rw [hr]
  · rw [if_neg h0, if_neg h0] at h26
    generalize readE nums names nots = c at h26 h40 h34 h0
    clear hx
    refine start c9 rfl ?_
    intro r' hr G hG lt le eq add sub mul quo rem conv strEq strLt strCat strLen strAt strCut bytes ofBytes len nth cut fits app rep setEl look upd ne strNe H
    have n0 : ne c c = false := by rw [H.ne]; simp
    have n1 : ne c 0 = true := by rw [H.ne]; simpa using h0
    have z0 : eq c 0 = false := by rw [H.eq]; simpa using h0
    have z1 : eq c c = true := by rw [H.eq]; simp
    have z2 : eq (len []) 0 = true := by rw [H.len, H.eq]; rfl
    (try cbv)
    repeat' (first | ((refine callB (hG _ _ _ h15) ?_; intro b hb; subst hb); (try cbv)) | ((refine callB (hG _ _ _ h16) ?_; intro b hb; subst hb); (try cbv)) | ((refine call0 (hG _ _ _ h19) ?_); (try cbv)) | ((refine callI (hG _ _ _ h40) ?_; intro b hb; subst hb); (try cbv)) | ((refine call0 (hG _ _ _ h21) ?_); (try cbv)) | ((refine call0 (hG _ _ _ h26) ?_); (try cbv)) | ((refine callI (hG _ _ _ h34) ?_; intro b hb; subst hb); (try cbv)) | (rw [n0]; (try cbv)) | (rw [z0]; (try cbv)) | (rw [n1]; (try cbv)) | (rw [z1]; (try cbv)) | (rw [z2]; (try cbv)) | ((refine callB (hG _ _ _ h17) ?_; intro b hb; subst hb); (try cbv)) | fail)
    rw [hr]
theorem law9 (xs : List DV) (h : All2 (Typed Tryz.prog 6) [26, 24] xs) : GG 9 xs (.one (false, [.bool true])) := by
  obtain ⟨⟨b1, d1⟩, ⟨b2, d2⟩, rfl, ⟨h1, k1⟩, ⟨h2, k2⟩⟩ := all2_two h
  obtain ⟨nums, names, nots, e1, e2, e3, rfl, hx⟩ := hasLex h1
  obtain ⟨l, es, rfl, he, hl⟩ := hasTexts h2
  dsimp only at k1 k2
  rw [k1, k2, lexArg, textsArg]
  exact g9 hx l es he hl
end Go.Vi
