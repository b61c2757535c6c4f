/-
  Contracts of Decide and Trouble.
-/
import Derived.Test.YtkjnedjjdmfpbaaGreatDoorP6
import Derived.Test.YtkjnedjjdmfpbaaGreatDoorP1
import Derived.Test.YtkjnedjjdmfpbaaGreatDoorA6
import Derived.Test.YtkjnedjjdmfpbaaGreatDoorP2
set_option linter.unusedVariables false
set_option linter.unusedSimpArgs false
set_option linter.unusedSectionVars false
namespace Go.Vi
open Go.Proofs
set_option maxRecDepth 100000
set_option linter.unusedVariables false
set_option linter.unusedSimpArgs false
/-- What a decision is asked with. -/
structure AskIn (nums : List Num) (names : List (List ByteArray)) (nots : List ByteArray) (e1 e2 e3 : List (List D)) (sw : List Swp) (se : List (List D)) (l : List Sd) (we : List (List D)) (rq : List Rq) (qe : List (List D)) : Prop where
  lex : LexIn nums names nots e1 e2 e3
  hse : swE sw se
  hsl : sw.length ≤ maxLen
  he : sdE l we
  hl : l.length ≤ maxLen
  hls : ∀ x ∈ l, x.t.size ≤ maxLen
  hq : rqE rq qe
  hql : rq.length ≤ maxLen
  hqs : ∀ q ∈ rq, RqIn q
def decE (nums : List Num) (names : List (List ByteArray)) (nots : List ByteArray) (sw : List Swp) (l : List Sd) (o w : Int) (n : Nat) : Int :=
  if ruledE nums names nots sw ≠ 0 then ruledE nums names nots sw else if repE l o w ≠ 0 then repE l o w else if 20 < n then 3 else 0
def refL (nums : List Num) (names : List (List ByteArray)) (nots : List ByteArray) (sw : List Swp) (l : List Sd) (o w : Int) : List Rq → Rq → Int := refS (lexP nums names nots) sw l o w
def errsS (nums : List Num) (names : List (List ByteArray)) (nots : List ByteArray) (sw : List Swp) (l : List Sd) (o w : Int) (rq : List Rq) : List Int := (decS (refL nums names nots sw l o w) rq).errs
theorem repE_ok {l : List Sd} {o w : Int} (h : repE l o w = 0) : l.length ≤ 80 ∧ ∀ x ∈ l, x.t.size ≤ 32 := by
  unfold repE at h
  split at h
  · rename_i h1
    simp only [repOk, Bool.and_eq_true, decide_eq_true_eq, List.all_eq_true] at h1
    refine ⟨h1.1, fun x hx => ?_⟩
    have := h1.2.1 x hx
    simp only [sdOk, Bool.and_eq_true] at this
    exact textOk_size this.1
  · cases h
theorem g59ok {nums names nots e1 e2 e3 sw se l we rq qe} (hx : AskIn nums names nots e1 e2 e3 sw se l we rq qe) (o w : Int) (h0 : decE nums names nots sw l o w rq.length = 0) :
    GG 59 [(true, [.row 2 e1, .row 1 e2, .row 1 e3]), (false, [.row 3 se]), (true, [.row 2 we, .int .i64 o, .int .i64 w]), (false, [.row 5 qe])]
      (.many [(false, [.ro [.row 2 we, .int .i64 o, .int .i64 w, .rmap 2 (eM (lexP nums names nots)), .row 3 se, .row 5 ((decS (refL nums names nots sw l o w) rq).acc.map rqD), .row 1 ((decS (refL nums names nots sw l o w) rq).which.map fun i : Nat => [.int .i64 (Int.ofNat i)]), .row 1 ((errsS nums names nots sw l o w rq).map fun e => [.int .i64 e])] 0]), (false, [.int .i64 0])]) := by
  have h51 := g51 hx.lex sw se hx.hse hx.hsl
  have h61 := g61 l we hx.he hx.hl hx.hls o w
  unfold decE at h0
  have hr0 : ruledE nums names nots sw = 0 := by
    by_cases h : ruledE nums names nots sw = 0
    · exact h
    · rw [if_pos h] at h0; exact absurd h0 h
  rw [if_neg (by simpa using hr0)] at h0
  have hp0 : repE l o w = 0 := by
    by_cases h : repE l o w = 0
    · exact h
    · rw [if_pos h] at h0; exact absurd h0 h
  rw [if_neg (by simpa using hp0)] at h0
  have hn : rq.length ≤ 20 := by
    by_cases h : 20 < rq.length
    · rw [if_pos h] at h0; cases h0
    · omega
  rw [ruledR, if_pos hr0] at h51
  rw [hp0] at h61
  obtain ⟨k1, k2⟩ := repE_ok hp0
  have hd : DecIn (lexP nums names nots) (eM (lexP nums names nots)) sw se l we := ⟨rfl, hx.hse, hx.hsl, hx.he, by omega, fun x h => by have := k2 x h; omega⟩
  exact g59a e1 e2 e3 se we qe o w _ rq hx.hq hn _ h51 h61 fun acc ae wh er q ha hal hq => g90 hd o w acc ae wh er ha (by simp only [maxLen]; omega) q (hx.hqs q hq)
theorem g59bad {nums names nots e1 e2 e3 sw se l we rq qe} (hx : AskIn nums names nots e1 e2 e3 sw se l we rq qe) (o w : Int) (h0 : decE nums names nots sw l o w rq.length ≠ 0) :
    GG 59 [(true, [.row 2 e1, .row 1 e2, .row 1 e3]), (false, [.row 3 se]), (true, [.row 2 we, .int .i64 o, .int .i64 w]), (false, [.row 5 qe])]
      (.many [(false, [.ptr0]), (false, [.int .i64 (decE nums names nots sw l o w rq.length)])]) := by
  have h51 := g51 hx.lex sw se hx.hse hx.hsl
  have h61 := g61 l we hx.he hx.hl hx.hls o w
  have hlq := map_len hx.hq
  unfold decE at h0 ⊢
  rw [ruledR] at h51
  by_cases hr0 : ruledE nums names nots sw = 0
  · rw [if_neg (by simpa using hr0)] at h0 ⊢
    rw [if_pos hr0] at h51
    generalize eM (lexP nums names nots) = E at h51
    by_cases hp0 : repE l o w = 0
    · rw [if_neg (by simpa using hp0)] at h0 ⊢
      rw [hp0] at h61
      have hn : 20 < rq.length := by
        by_cases h : 20 < rq.length
        · exact h
        · rw [if_neg h] at h0; exact absurd rfl h0
      rw [if_pos hn]
      clear hx
      refine start c59 rfl ?_
      intro r' hr G hG hGW lt le eq add sub mul quo rem conv strEq strLt strCat strLen strAt strCut bytes ofBytes len nth cut fits app rep setEl look upd ne strNe H
      have n0 : ne 0 0 = false := by rw [H.ne]; rfl
      have n1 : lt 20 (len qe) = true := by rw [H.len, hlq, H.gtK (c := 20) _ 20 rfl, decide_eq_true hn]
      (try cbv)
      repeat' (first | ((refine call0 (hG _ _ _ h51) ?_); (try cbv)) | (rw [n0]; (try cbv)) | ((refine callI (hG _ _ _ h61) ?_; intro b hb; subst hb); (try cbv)) | (rw [n1]; (try cbv)) | fail)
      rw [hr]
    · rw [if_pos hp0]
      generalize repE l o w = c at h61 hp0 ⊢
      clear hx h0
      refine start c59 rfl ?_
      intro r' hr G hG hGW lt le eq add sub mul quo rem conv strEq strLt strCat strLen strAt strCut bytes ofBytes len nth cut fits app rep setEl look upd ne strNe H
      have n0 : ne 0 0 = false := by rw [H.ne]; rfl
      have n1 : ne c 0 = true := by rw [H.ne]; simpa using hp0
      (try cbv)
      repeat' (first | ((refine call0 (hG _ _ _ h51) ?_); (try cbv)) | (rw [n0]; (try cbv)) | ((refine callI (hG _ _ _ h61) ?_; intro b hb; subst hb); (try cbv)) | (rw [n1]; (try cbv)) | fail)
      rw [hr]
  · rw [if_pos hr0]
    rw [if_neg hr0] at h51
    generalize ruledE nums names nots sw = c at h51 hr0 ⊢
    clear hx h0 h61
    refine start c59 rfl ?_
    intro r' hr G hG hGW lt le eq add sub mul quo rem conv strEq strLt strCat strLen strAt strCut bytes ofBytes len nth cut fits app rep setEl look upd ne strNe H
    have n1 : ne c 0 = true := by rw [H.ne]; simpa using hr0
    (try cbv)
    repeat' (first | ((refine call0 (hG _ _ _ h51) ?_); (try cbv)) | (rw [n1]; (try cbv)) | fail)
    rw [hr]
def decideR (nums : List Num) (names : List (List ByteArray)) (nots : List ByteArray) (sw : List Swp) (l : List Sd) (o w : Int) (rq : List Rq) : R :=
  if decE nums names nots sw l o w rq.length = 0 then .many [(false, [.row 1 ((errsS nums names nots sw l o w rq).map fun e => [.int .i64 e])]), (false, [.int .i64 0])] else .many [(false, [.row 1 []]), (false, [.int .i64 (decE nums names nots sw l o w rq.length)])]
theorem g29 {nums names nots e1 e2 e3 sw se l we rq qe} (hx : AskIn nums names nots e1 e2 e3 sw se l we rq qe) (o w : Int) :
    GG 29 [(true, [.row 2 e1, .row 1 e2, .row 1 e3]), (false, [.row 3 se]), (true, [.row 2 we, .int .i64 o, .int .i64 w]), (false, [.row 5 qe])] (decideR nums names nots sw l o w rq) := by
  unfold decideR
  by_cases h0 : decE nums names nots sw l o w rq.length = 0
  · have h59 := g59ok hx o w h0
    rw [if_pos h0]
    generalize (errsS nums names nots sw l o w rq).map (fun e => [D.int .i64 e]) = S at h59 ⊢
    generalize (decS (refL nums names nots sw l o w) rq).acc.map rqD = S1 at h59
    generalize (decS (refL nums names nots sw l o w) rq).which.map (fun i : Nat => [D.int .i64 (Int.ofNat i)]) = S2 at h59
    generalize eM (lexP nums names nots) = E at h59
    clear hx h0
    refine start c29 rfl ?_
    intro r' hr G hG hGW lt le eq add sub mul quo rem conv strEq strLt strCat strLen strAt strCut bytes ofBytes len nth cut fits app rep setEl look upd ne strNe H
    have n0 : ne 0 0 = false := by rw [H.ne]; rfl
    (try cbv)
    repeat' (first | ((refine call0 (hG _ _ _ h59) ?_); (try cbv)) | (rw [n0]; (try cbv)) | fail)
    rw [hr]
  · have h59 := g59bad hx o w h0
    rw [if_neg h0]
    generalize decE nums names nots sw l o w rq.length = c at h59 h0 ⊢
    clear hx
    refine start c29 rfl ?_
    intro r' hr G hG hGW lt le eq add sub mul quo rem conv strEq strLt strCat strLen strAt strCut bytes ofBytes len nth cut fits app rep setEl look upd ne strNe H
    have n1 : ne c 0 = true := by rw [H.ne]; simpa using h0
    (try cbv)
    repeat' (first | ((refine call0 (hG _ _ _ h59) ?_); (try cbv)) | (rw [n1]; (try cbv)) | fail)
    rw [hr]
end Go.Vi
namespace Go.Vi
open Go.Proofs
set_option maxRecDepth 100000
set_option linter.unusedVariables false
set_option linter.unusedSimpArgs false
/-- The least number of changes that lead from the first i marks to the first k marks. -/
def levS (may : Mrk → Mrk → Bool) (a b : List Mrk) : Nat → Nat → Int
  | 0, k => k
  | i + 1, 0 => i + 1
  | i + 1, k + 1 => min (min (levS may a b i k + (bif may (a.getD i ⟨0, 0⟩) (b.getD k ⟨0, 0⟩) then 0 else 1)) (levS may a b i (k + 1) + 1)) (levS may a b (i + 1) k + 1)
theorem levS_succ (may : Mrk → Mrk → Bool) (a b : List Mrk) (i k : Nat) : levS may a b (i + 1) (k + 1) = min (min (levS may a b i k + (bif may (a.getD i ⟨0, 0⟩) (b.getD k ⟨0, 0⟩) then 0 else 1)) (levS may a b i (k + 1) + 1)) (levS may a b (i + 1) k + 1) := by rw [levS]
theorem levS_bd (may : Mrk → Mrk → Bool) (a b : List Mrk) : ∀ i k, 0 ≤ levS may a b i k ∧ levS may a b i k ≤ i + k
  | 0, k => by simp [levS]
  | i + 1, 0 => by simp [levS]; omega
  | i + 1, k + 1 => by
    have h1 := levS_bd may a b i k
    have h2 := levS_bd may a b i (k + 1)
    have h3 := levS_bd may a b (i + 1) k
    simp only [levS]
    generalize may (a.getD i ⟨0, 0⟩) (b.getD k ⟨0, 0⟩) = m
    cases m <;> simp only [cond_true, cond_false] <;> omega
theorem g53 (m : D) (sw : List Swp) (se : List (List D)) (hse : swE sw se) (hsl : sw.length ≤ maxLen) (a b : List Mrk) (ae be : List (List D)) (ha : mkE a ae) (hb : mkE b be) (hal : a.length ≤ 100000) (hbl : b.length ≤ 100000) :
    GG 53 [(true, [m, .row 3 se]), (false, [.row 2 ae]), (false, [.row 2 be])] (.one (false, [.int .i64 (levS (mayB sw) a b a.length b.length)])) := by
  have hla := map_len ha
  have hlb := map_len hb
  have ham : a.length ≤ maxLen := Nat.le_trans hal (by decide)
  have hbm : b.length ≤ maxLen := Nat.le_trans hbl (by decide)
  refine start c53 rfl ?_
  intro r' hr G hG hGW lt le eq add sub mul quo rem conv strEq strLt strCat strLen strAt strCut bytes ofBytes len nth cut fits app rep setEl look upd ne strNe H
  have hz : add .i64 (len be) 1 = Int.ofNat (b.length + 1) := by rw [H.len, hlb]; exact H.inc (Nat.lt_succ_self _) (by simp only [maxLen]; omega)
  obtain ⟨z, hzz⟩ : ∃ z, z = Int.ofNat (b.length + 1) := ⟨_, rfl⟩
  rw [← hzz] at hz
  obtain ⟨R0, hR0⟩ : ∃ A : Nat → List (List D), ∀ k, A k = ((List.range k).map fun i : Nat => [.int .i64 (Int.ofNat i)]) := ⟨_, fun _ => rfl⟩
  (try cbv)
  repeat' (first | (rw [hz]; (try cbv)) | fail)
  refine loopK ?_
  intro K hK
  obtain ⟨N, hN⟩ : ∃ N, N = (b.length + 1) := ⟨_, rfl⟩
  obtain ⟨P, hP⟩ : ∃ P : Nat → Prop, ∀ k, P k = (True) := ⟨_, fun _ => rfl⟩
  refine loopV N (fun k => [(1, .v false [.d (.row 2 ae)]), (2, .v false [.d (.row 2 be)]), (3, .v false [.loc 0 0]), (7, .v false [.loc 1 0]), (16, .v false [.d (.int .i64 z)]), (17, .v false [.d (.int .i64 (Int.ofNat k))])]) (fun k => [(0, .blk [.d m, .d (.row 3 se)]), (1, .blk [.own 2, .own 3]), (2, .arr 3 1 (R0 k)), (3, .arr 3 1 [])]) P ?_ ?_ ?_
  · rw [hR0 0]; exact ⟨rfl, rfl⟩
  · rw [hP]; trivial
  intro k hk _
  rw [hN] at hk
  by_cases hkl : k < b.length + 1
  · have h1 : lt (Int.ofNat k) z = true := by rw [hzz, H.lt]; exact decide_eq_true (Int.ofNat_lt.2 hkl)
    have h3 := H.inc hkl (by simp only [maxLen]; omega)
    have h6 : ∀ x, fits 8 (app (R0 k) [x]) = true := fun x => H.fitsLe (by rw [H.app, hR0]; simp; omega) (by decide)
    (try cbv)
    repeat' (first | (rw [h1]; (try cbv)) | (refine ⟨(h6 _), ?_⟩; (try cbv)) | (refine ⟨lenOne rfl, ?_⟩; (try cbv)) | fail)
    exact ⟨by rw [hN]; exact hkl, by rw [hP]; trivial, by rw [h3], by rw [H.app, hR0, hR0, List.range_succ, List.map_append]; rfl⟩
  have hkn : k = b.length + 1 := by omega
  have h1 : lt (Int.ofNat k) z = false := by rw [hzz, H.lt]; exact decide_eq_false (fun h => hkl (Int.ofNat_lt.1 h))
  obtain ⟨L, hL⟩ : ∃ L : Nat → Nat → Int, L = levS (mayB sw) a b := ⟨_, rfl⟩
  obtain ⟨Row, hRow⟩ : ∃ A : Nat → List (List D), ∀ i, A i = (List.range (b.length + 1)).map fun k => [.int .i64 (L i k)] := ⟨_, fun _ => rfl⟩
  have hR00 : R0 k = Row 0 := by
    rw [hR0, hRow, hkn, hL]
    simp [levS]
  rw [hR00]
  (try cbv)
  repeat' (first | (rw [h1]; (try cbv)) | fail)
  rw [hK]
  cbv
  obtain ⟨N2, hN2⟩ : ∃ N, N = a.length := ⟨_, rfl⟩
  obtain ⟨P2, hP2⟩ : ∃ P : Nat → Prop, ∀ k, P k = True := ⟨_, fun _ => rfl⟩
  refine loopK ?_
  intro K2 hK2
  refine loopR 2 5 N2 (fun k => [(2, .v false [.d (.row 2 be)]), (3, .v false [.loc 0 0]), (7, .v false [.loc 1 0]), (27, .v false [.d (.row 2 ae)]), (28, .v false [.d (.int .i64 (len ae))]), (29, .v false [.d (.int .i64 (Int.ofNat k))])]) (fun k => [(0, .blk [.d m, .d (.row 3 se)]), (1, .blk [.own 2, match k with | 0 => .own 3 | _ + 1 => .own 2]), (2, .arr 3 1 (Row k)), (3, .arr 3 1 [])]) P2 ⟨rfl, rfl⟩ (by rw [hP2]; trivial) ?_
  intro i hi _
  rw [hN2] at hi
  rcases hd : a.drop i with _ | ⟨⟨xk, xv⟩, r⟩
  · have g1 := H.rowNil ha hd hi
    have hin := drop_nil hd hi
    have hlast : nth (Row i) (len be) = some [.int .i64 (L a.length b.length)] := by
      rw [H.len, hlb, H.nth, if_pos (Int.natCast_nonneg _), hRow, hin]
      simp
    (try cbv)
    repeat' (first | (rw [g1]; (try cbv)) | (rw [hK2]; (try cbv)) | (rw [hlast]; (try cbv)) | fail)
    rw [hr, hL]
  · obtain ⟨g1, g2, g3, g4, g5⟩ := H.rowCons ha ham hd
    have hx : a.getD i ⟨0, 0⟩ = ⟨xk, xv⟩ := by rw [List.getD_eq_getElem?_getD, (drop_cons hd).2.1]; rfl
    rcases i with _ | i
    · obtain ⟨ii, hii⟩ : ∃ ii, ii = Int.ofNat 0 := ⟨_, rfl⟩
      obtain ⟨RI, hRI⟩ : ∃ RI, RI = Row 0 := ⟨_, rfl⟩
      (try cbv)
      repeat' (first | (rw [g1]; (try cbv)) | (rw [g2]; (try cbv)) | fail)
      rw [← hii, ← hRI]
      obtain ⟨Cur, hCur⟩ : ∃ A : Nat → List (List D), ∀ k, A k = (List.range (k + 1)).map fun k => [.int .i64 (L (0 + 1) k)] := ⟨_, fun _ => rfl⟩
      have hC0 : [[D.int .i64 (add .i64 ii 1)]] = Cur 0 := by rw [hCur, hii, g3, hL]; simp [levS]
      rw [hC0]
      refine loopK ?_
      intro K3 hK3
      obtain ⟨N3, hN3⟩ : ∃ N, N = b.length := ⟨_, rfl⟩
      obtain ⟨P3, hP3⟩ : ∃ P : Nat → Prop, ∀ k, P k = (True) := ⟨_, fun _ => rfl⟩
      refine loopV N3 (fun k => [(2, .v false [.d (.row 2 be)]), (3, .v false [.loc 0 0]), (7, .v false [.loc 1 0]), (10, .v false [.loc 4 0]), (27, .v false [.d (.row 2 ae)]), (28, .v false [.d (.int .i64 (len ae))]), (29, .v false [.d (.int .i64 ii)]), (38, .v false [.d (.row 2 be)]), (39, .v false [.d (.int .i64 (len be))]), (40, .v false [.d (.int .i64 (Int.ofNat k))])]) (fun k => [(0, .blk [.d m, .d (.row 3 se)]), (1, .blk [.own 2, .own 5]), (2, .arr 3 1 RI), (3, .arr 3 1 []), (4, .blk [.d (.int .u8 xk), .d (.int .i64 xv)]), (5, .arr 3 1 (Cur k))]) P3 ?_ ?_ ?_
      · exact ⟨rfl, rfl⟩
      · rw [hP3]; trivial
      intro k hk _
      rw [hN3] at hk
      rcases hd3 : b.drop k with _ | ⟨⟨yk, yv⟩, q⟩
      · have f1 := H.rowNil hb hd3 hk
        have hkb := drop_nil hd3 hk
        have hCR : Cur k = Row (0 + 1) := by rw [hCur, hRow, hkb]
        (try cbv)
        repeat' (first | (rw [f1]; (try cbv)) | (rw [hK3]; (try cbv)) | fail)
        exact ⟨by rw [hN2]; exact g5, by rw [hP2]; trivial, by rw [hii, g3], by rw [hCR]⟩
      · obtain ⟨f1, f2, f3, f4, f5⟩ := H.rowCons hb hbm hd3
        have hy : b.getD k ⟨0, 0⟩ = ⟨yk, yv⟩ := by rw [List.getD_eq_getElem?_getD, (drop_cons hd3).2.1]; rfl
        have p1 : nth RI (Int.ofNat k) = some [.int .i64 (L 0 k)] := by
          rw [H.nth, if_pos (show (0 : Int) ≤ Int.ofNat k from Int.natCast_nonneg _), hRI, hRow]
          show ((List.range (b.length + 1)).map fun k => [D.int .i64 (L 0 k)])[k]? = _
          rw [List.getElem?_map, List.getElem?_range (by omega)]
          rfl
        have p2 : nth RI (Int.ofNat (k + 1)) = some [.int .i64 (L 0 (k + 1))] := by
          rw [H.nth, if_pos (show (0 : Int) ≤ Int.ofNat (k + 1) from Int.natCast_nonneg _), hRI, hRow]
          show ((List.range (b.length + 1)).map fun k => [D.int .i64 (L 0 k)])[k + 1]? = _
          rw [List.getElem?_map, List.getElem?_range (by omega)]
          rfl
        have p3 : nth (Cur k) (Int.ofNat k) = some [.int .i64 (L (0 + 1) k)] := by
          rw [H.nth, if_pos (show (0 : Int) ≤ Int.ofNat k from Int.natCast_nonneg _), hCur]
          show ((List.range (k + 1)).map fun k => [D.int .i64 (L (0 + 1) k)])[k]? = _
          rw [List.getElem?_map, List.getElem?_range (by omega)]
          rfl
        have h79 := g79 m sw se hse hsl ⟨xk, xv⟩ ⟨yk, yv⟩
        have hL1 : L (0 + 1) (k + 1) = min (min (L 0 k + (bif mayB sw ⟨xk, xv⟩ ⟨yk, yv⟩ then 0 else 1)) (L 0 (k + 1) + 1)) (L (0 + 1) k + 1) := by
          rw [hL]
          rw [levS_succ, hx, hy]
        have d1 := levS_bd (mayB sw) a b 0 k
        have d2 := levS_bd (mayB sw) a b 0 (k + 1)
        have d3 := levS_bd (mayB sw) a b (0 + 1) k
        rw [← hL] at d1 d2 d3
        have hia : 0 < a.length := g5
        have hC1 : Cur (k + 1) = Cur k ++ [[.int .i64 (L (0 + 1) (k + 1))]] := by rw [hCur, hCur, List.range_succ (n := k + 1), List.map_append]; rfl
        have h6 : ∀ x, fits 8 (app (Cur k) [x]) = true := fun x => H.fitsLe (by rw [H.app, hCur]; simp; omega) (by decide)
        have e1 : add .i64 (L 0 k) 1 = L 0 k + 1 := by rw [H.add, wrap64 (by omega) (by omega)]
        have e2 : add .i64 (L 0 (k + 1)) 1 = L 0 (k + 1) + 1 := by rw [H.add, wrap64 (by omega) (by omega)]
        have e3 : add .i64 (L (0 + 1) k) 1 = L (0 + 1) k + 1 := by rw [H.add, wrap64 (by omega) (by omega)]
        have e4 : sub .i64 (L 0 k + 1) 1 = L 0 k := by rw [H.sub, wrap64 (by omega) (by omega)]; omega
        generalize L 0 k = u at *
        generalize L 0 (k + 1) = v at *
        generalize L (0 + 1) k = t at *
        generalize L (0 + 1) (k + 1) = res at *
        generalize hcc : mayB sw ⟨xk, xv⟩ ⟨yk, yv⟩ = c at h79 hL1
        obtain ⟨u1, hu1⟩ : ∃ u1, u1 = u + 1 := ⟨_, rfl⟩
        obtain ⟨v1, hv1⟩ : ∃ v1, v1 = v + 1 := ⟨_, rfl⟩
        obtain ⟨t1, ht1⟩ : ∃ t1, t1 = t + 1 := ⟨_, rfl⟩
        rw [← hu1] at e1 e4
        rw [← hv1] at e2
        rw [← ht1] at e3
        cases c
        · (try cbv)
          repeat' (first | (rw [f1]; (try cbv)) | (rw [f2]; (try cbv)) | (rw [p1]; (try cbv)) | ((refine callB (hG _ _ _ h79) ?_; intro b hb; subst hb); (try cbv)) | (rw [p3]; (try cbv)) | (rw [f3]; (try cbv)) | (rw [p2]; (try cbv)) | (rw [e1]; (try cbv)) | (rw [e2]; (try cbv)) | (rw [e3]; (try cbv)) | (refine ⟨(h6 _), ?_⟩; (try cbv)) | (refine ⟨lenOne rfl, ?_⟩; (try cbv)) | fail)
          refine ⟨by rw [hN3]; exact f5, by rw [hP3]; trivial, ?_⟩
          simp only [cond_false] at hL1
          rw [H.app, hC1]
          cases m1 : lt v1 u1
          · cases m2 : lt t1 u1
            · have hv : u1 = res := by
                rw [H.lt] at m1 m2
                simp only [decide_eq_false_iff_not, decide_eq_true_eq] at m1 m2
                omega
              dsimp only
              rw [hv]
            · have hv : t1 = res := by
                rw [H.lt] at m1 m2
                simp only [decide_eq_false_iff_not, decide_eq_true_eq] at m1 m2
                omega
              dsimp only
              rw [hv]
          · cases m2 : lt t1 v1
            · have hv : v1 = res := by
                rw [H.lt] at m1 m2
                simp only [decide_eq_false_iff_not, decide_eq_true_eq] at m1 m2
                omega
              dsimp only
              rw [hv]
            · have hv : t1 = res := by
                rw [H.lt] at m1 m2
                simp only [decide_eq_false_iff_not, decide_eq_true_eq] at m1 m2
                omega
              dsimp only
              rw [hv]
        · (try cbv)
          repeat' (first | (rw [f1]; (try cbv)) | (rw [f2]; (try cbv)) | (rw [p1]; (try cbv)) | ((refine callB (hG _ _ _ h79) ?_; intro b hb; subst hb); (try cbv)) | (rw [p3]; (try cbv)) | (rw [f3]; (try cbv)) | (rw [p2]; (try cbv)) | (rw [e1]; (try cbv)) | (rw [e4]; (try cbv)) | (rw [e2]; (try cbv)) | (rw [e3]; (try cbv)) | (refine ⟨(h6 _), ?_⟩; (try cbv)) | (refine ⟨lenOne rfl, ?_⟩; (try cbv)) | fail)
          refine ⟨by rw [hN3]; exact f5, by rw [hP3]; trivial, ?_⟩
          simp only [cond_true] at hL1
          rw [H.app, hC1]
          cases m1 : lt v1 u
          · cases m2 : lt t1 u
            · have hv : u = res := by
                rw [H.lt] at m1 m2
                simp only [decide_eq_false_iff_not, decide_eq_true_eq] at m1 m2
                omega
              dsimp only
              rw [hv]
            · have hv : t1 = res := by
                rw [H.lt] at m1 m2
                simp only [decide_eq_false_iff_not, decide_eq_true_eq] at m1 m2
                omega
              dsimp only
              rw [hv]
          · cases m2 : lt t1 v1
            · have hv : v1 = res := by
                rw [H.lt] at m1 m2
                simp only [decide_eq_false_iff_not, decide_eq_true_eq] at m1 m2
                omega
              dsimp only
              rw [hv]
            · have hv : t1 = res := by
                rw [H.lt] at m1 m2
                simp only [decide_eq_false_iff_not, decide_eq_true_eq] at m1 m2
                omega
              dsimp only
              rw [hv]
    · obtain ⟨ii, hii⟩ : ∃ ii, ii = Int.ofNat (i + 1) := ⟨_, rfl⟩
      obtain ⟨RI, hRI⟩ : ∃ RI, RI = Row (i + 1) := ⟨_, rfl⟩
      (try cbv)
      repeat' (first | (rw [g1]; (try cbv)) | (rw [g2]; (try cbv)) | fail)
      rw [← hii, ← hRI]
      obtain ⟨Cur, hCur⟩ : ∃ A : Nat → List (List D), ∀ k, A k = (List.range (k + 1)).map fun k => [.int .i64 (L ((i + 1) + 1) k)] := ⟨_, fun _ => rfl⟩
      have hC0 : [[D.int .i64 (add .i64 ii 1)]] = Cur 0 := by rw [hCur, hii, g3, hL]; simp [levS]
      rw [hC0]
      refine loopK ?_
      intro K3 hK3
      obtain ⟨N3, hN3⟩ : ∃ N, N = b.length := ⟨_, rfl⟩
      obtain ⟨P3, hP3⟩ : ∃ P : Nat → Prop, ∀ k, P k = (True) := ⟨_, fun _ => rfl⟩
      refine loopV N3 (fun k => [(2, .v false [.d (.row 2 be)]), (3, .v false [.loc 0 0]), (7, .v false [.loc 1 0]), (10, .v false [.loc 4 0]), (27, .v false [.d (.row 2 ae)]), (28, .v false [.d (.int .i64 (len ae))]), (29, .v false [.d (.int .i64 ii)]), (38, .v false [.d (.row 2 be)]), (39, .v false [.d (.int .i64 (len be))]), (40, .v false [.d (.int .i64 (Int.ofNat k))])]) (fun k => [(0, .blk [.d m, .d (.row 3 se)]), (1, .blk [.own 2, .own 5]), (2, .arr 3 1 RI), (3, .arr 3 1 []), (4, .blk [.d (.int .u8 xk), .d (.int .i64 xv)]), (5, .arr 3 1 (Cur k))]) P3 ?_ ?_ ?_
      · exact ⟨rfl, rfl⟩
      · rw [hP3]; trivial
      intro k hk _
      rw [hN3] at hk
      rcases hd3 : b.drop k with _ | ⟨⟨yk, yv⟩, q⟩
      · have f1 := H.rowNil hb hd3 hk
        have hkb := drop_nil hd3 hk
        have hCR : Cur k = Row ((i + 1) + 1) := by rw [hCur, hRow, hkb]
        (try cbv)
        repeat' (first | (rw [f1]; (try cbv)) | (rw [hK3]; (try cbv)) | fail)
        exact ⟨by rw [hN2]; exact g5, by rw [hP2]; trivial, by rw [hii, g3], by rw [hCR]⟩
      · obtain ⟨f1, f2, f3, f4, f5⟩ := H.rowCons hb hbm hd3
        have hy : b.getD k ⟨0, 0⟩ = ⟨yk, yv⟩ := by rw [List.getD_eq_getElem?_getD, (drop_cons hd3).2.1]; rfl
        have p1 : nth RI (Int.ofNat k) = some [.int .i64 (L (i + 1) k)] := by
          rw [H.nth, if_pos (show (0 : Int) ≤ Int.ofNat k from Int.natCast_nonneg _), hRI, hRow]
          show ((List.range (b.length + 1)).map fun k => [D.int .i64 (L (i + 1) k)])[k]? = _
          rw [List.getElem?_map, List.getElem?_range (by omega)]
          rfl
        have p2 : nth RI (Int.ofNat (k + 1)) = some [.int .i64 (L (i + 1) (k + 1))] := by
          rw [H.nth, if_pos (show (0 : Int) ≤ Int.ofNat (k + 1) from Int.natCast_nonneg _), hRI, hRow]
          show ((List.range (b.length + 1)).map fun k => [D.int .i64 (L (i + 1) k)])[k + 1]? = _
          rw [List.getElem?_map, List.getElem?_range (by omega)]
          rfl
        have p3 : nth (Cur k) (Int.ofNat k) = some [.int .i64 (L ((i + 1) + 1) k)] := by
          rw [H.nth, if_pos (show (0 : Int) ≤ Int.ofNat k from Int.natCast_nonneg _), hCur]
          show ((List.range (k + 1)).map fun k => [D.int .i64 (L ((i + 1) + 1) k)])[k]? = _
          rw [List.getElem?_map, List.getElem?_range (by omega)]
          rfl
        have h79 := g79 m sw se hse hsl ⟨xk, xv⟩ ⟨yk, yv⟩
        have hL1 : L ((i + 1) + 1) (k + 1) = min (min (L (i + 1) k + (bif mayB sw ⟨xk, xv⟩ ⟨yk, yv⟩ then 0 else 1)) (L (i + 1) (k + 1) + 1)) (L ((i + 1) + 1) k + 1) := by
          rw [hL]
          rw [levS_succ, hx, hy]
        have d1 := levS_bd (mayB sw) a b (i + 1) k
        have d2 := levS_bd (mayB sw) a b (i + 1) (k + 1)
        have d3 := levS_bd (mayB sw) a b ((i + 1) + 1) k
        rw [← hL] at d1 d2 d3
        have hia : (i + 1) < a.length := g5
        have hC1 : Cur (k + 1) = Cur k ++ [[.int .i64 (L ((i + 1) + 1) (k + 1))]] := by rw [hCur, hCur, List.range_succ (n := k + 1), List.map_append]; rfl
        have h6 : ∀ x, fits 8 (app (Cur k) [x]) = true := fun x => H.fitsLe (by rw [H.app, hCur]; simp; omega) (by decide)
        have e1 : add .i64 (L (i + 1) k) 1 = L (i + 1) k + 1 := by rw [H.add, wrap64 (by omega) (by omega)]
        have e2 : add .i64 (L (i + 1) (k + 1)) 1 = L (i + 1) (k + 1) + 1 := by rw [H.add, wrap64 (by omega) (by omega)]
        have e3 : add .i64 (L ((i + 1) + 1) k) 1 = L ((i + 1) + 1) k + 1 := by rw [H.add, wrap64 (by omega) (by omega)]
        have e4 : sub .i64 (L (i + 1) k + 1) 1 = L (i + 1) k := by rw [H.sub, wrap64 (by omega) (by omega)]; omega
        generalize L (i + 1) k = u at *
        generalize L (i + 1) (k + 1) = v at *
        generalize L ((i + 1) + 1) k = t at *
        generalize L ((i + 1) + 1) (k + 1) = res at *
        generalize hcc : mayB sw ⟨xk, xv⟩ ⟨yk, yv⟩ = c at h79 hL1
        obtain ⟨u1, hu1⟩ : ∃ u1, u1 = u + 1 := ⟨_, rfl⟩
        obtain ⟨v1, hv1⟩ : ∃ v1, v1 = v + 1 := ⟨_, rfl⟩
        obtain ⟨t1, ht1⟩ : ∃ t1, t1 = t + 1 := ⟨_, rfl⟩
        rw [← hu1] at e1 e4
        rw [← hv1] at e2
        rw [← ht1] at e3
        cases c
        · (try cbv)
          repeat' (first | (rw [f1]; (try cbv)) | (rw [f2]; (try cbv)) | (rw [p1]; (try cbv)) | ((refine callB (hG _ _ _ h79) ?_; intro b hb; subst hb); (try cbv)) | (rw [p3]; (try cbv)) | (rw [f3]; (try cbv)) | (rw [p2]; (try cbv)) | (rw [e1]; (try cbv)) | (rw [e2]; (try cbv)) | (rw [e3]; (try cbv)) | (refine ⟨(h6 _), ?_⟩; (try cbv)) | (refine ⟨lenOne rfl, ?_⟩; (try cbv)) | fail)
          refine ⟨by rw [hN3]; exact f5, by rw [hP3]; trivial, ?_⟩
          simp only [cond_false] at hL1
          rw [H.app, hC1]
          cases m1 : lt v1 u1
          · cases m2 : lt t1 u1
            · have hv : u1 = res := by
                rw [H.lt] at m1 m2
                simp only [decide_eq_false_iff_not, decide_eq_true_eq] at m1 m2
                omega
              dsimp only
              rw [hv]
            · have hv : t1 = res := by
                rw [H.lt] at m1 m2
                simp only [decide_eq_false_iff_not, decide_eq_true_eq] at m1 m2
                omega
              dsimp only
              rw [hv]
          · cases m2 : lt t1 v1
            · have hv : v1 = res := by
                rw [H.lt] at m1 m2
                simp only [decide_eq_false_iff_not, decide_eq_true_eq] at m1 m2
                omega
              dsimp only
              rw [hv]
            · have hv : t1 = res := by
                rw [H.lt] at m1 m2
                simp only [decide_eq_false_iff_not, decide_eq_true_eq] at m1 m2
                omega
              dsimp only
              rw [hv]
        · (try cbv)
          repeat' (first | (rw [f1]; (try cbv)) | (rw [f2]; (try cbv)) | (rw [p1]; (try cbv)) | ((refine callB (hG _ _ _ h79) ?_; intro b hb; subst hb); (try cbv)) | (rw [p3]; (try cbv)) | (rw [f3]; (try cbv)) | (rw [p2]; (try cbv)) | (rw [e1]; (try cbv)) | (rw [e4]; (try cbv)) | (rw [e2]; (try cbv)) | (rw [e3]; (try cbv)) | (refine ⟨(h6 _), ?_⟩; (try cbv)) | (refine ⟨lenOne rfl, ?_⟩; (try cbv)) | fail)
          refine ⟨by rw [hN3]; exact f5, by rw [hP3]; trivial, ?_⟩
          simp only [cond_true] at hL1
          rw [H.app, hC1]
          cases m1 : lt v1 u
          · cases m2 : lt t1 u
            · have hv : u = res := by
                rw [H.lt] at m1 m2
                simp only [decide_eq_false_iff_not, decide_eq_true_eq] at m1 m2
                omega
              dsimp only
              rw [hv]
            · have hv : t1 = res := by
                rw [H.lt] at m1 m2
                simp only [decide_eq_false_iff_not, decide_eq_true_eq] at m1 m2
                omega
              dsimp only
              rw [hv]
          · cases m2 : lt t1 v1
            · have hv : v1 = res := by
                rw [H.lt] at m1 m2
                simp only [decide_eq_false_iff_not, decide_eq_true_eq] at m1 m2
                omega
              dsimp only
              rw [hv]
            · have hv : t1 = res := by
                rw [H.lt] at m1 m2
                simp only [decide_eq_false_iff_not, decide_eq_true_eq] at m1 m2
                omega
              dsimp only
              rw [hv]
end Go.Vi
namespace Go.Vi
open Go.Proofs
set_option maxRecDepth 100000
set_option linter.unusedVariables false
set_option linter.unusedSimpArgs false
def troubleE (nums : List Num) (names : List (List ByteArray)) (nots : List ByteArray) (sw : List Swp) (a b : List ByteArray) : Int := if ruledE nums names nots sw = 0 then listedS' [a, b] else ruledE nums names nots sw
def troubleN (nums : List Num) (names : List (List ByteArray)) (nots : List ByteArray) (sw : List Swp) (a b : List ByteArray) : Int :=
  levS (mayB sw) (senseM (lexP nums names nots) a) (senseM (lexP nums names nots) b) (senseM (lexP nums names nots) a).length (senseM (lexP nums names nots) b).length
def troubleR (nums : List Num) (names : List (List ByteArray)) (nots : List ByteArray) (sw : List Swp) (a b : List ByteArray) : R :=
  if troubleE nums names nots sw a b = 0 then .many [(false, [.int .i64 (troubleN nums names nots sw a b)]), (false, [.int .i64 0])] else .many [(false, [.int .i64 0]), (false, [.int .i64 (troubleE nums names nots sw a b)])]
theorem listed_two {a b : List ByteArray} (h : listedS' [a, b] = 0) : a.length ≤ 80 ∧ b.length ≤ 80 ∧ (∀ s ∈ a, textOk s = true) ∧ ∀ s ∈ b, textOk s = true := by
  unfold listedS' at h
  split at h
  · rename_i h1
    split at h
    · rename_i h2
      simp only [List.all_cons, List.all_nil, Bool.and_true, Bool.and_eq_true, decide_eq_true_eq, List.all_eq_true] at h1 h2
      exact ⟨h1.1, h1.2, h2.1, h2.2⟩
    · cases h
  · cases h
theorem senseM_len (L : List (ByteArray × Mrk)) (l : List ByteArray) : (senseM L l).length ≤ l.length := List.length_filterMap_le _ _
theorem g18 {nums : List Num} {names : List (List ByteArray)} {nots : List ByteArray} {e1 e2 e3 : List (List D)} (hx : LexIn nums names nots e1 e2 e3) (sw : List Swp) (se : List (List D)) (hse : swE sw se) (hsl : sw.length ≤ maxLen) (a b : List ByteArray) (ea eb : List (List D)) (ha : txE a ea) (hb : txE b eb) (hsa : Short a) (hsb : Short b) :
    GG 18 [(true, [.row 2 e1, .row 1 e2, .row 1 e3]), (false, [.row 3 se]), (false, [.row 1 ea]), (false, [.row 1 eb])] (troubleR nums names nots sw a b) := by
  have h51 := g51 hx sw se hse hsl
  have h52 := g52 [a, b] [[.row 1 ea], [.row 1 eb]] (by rw [nsE, ha, hb]; rfl) (by simp [maxLen]) (by simpa using ⟨hsa, hsb⟩)
  unfold troubleR troubleE
  rw [ruledR] at h51
  by_cases h0 : ruledE nums names nots sw = 0
  · rw [if_pos h0] at h51 ⊢
    by_cases h2 : listedS' [a, b] = 0
    · obtain ⟨h3, h4, h5, h6⟩ := listed_two h2
      have s1 := g54 (lexP nums names nots) (eM (lexP nums names nots)) rfl a ea ha (by omega) (fun s hs => by have := textOk_size (h5 s hs); omega)
      have s2 := g54 (lexP nums names nots) (eM (lexP nums names nots)) rfl b eb hb (by omega) (fun s hs => by have := textOk_size (h6 s hs); omega)
      have l1 := senseM_len (lexP nums names nots) a
      have l2 := senseM_len (lexP nums names nots) b
      have h53 := g53 (.rmap 2 (eM (lexP nums names nots))) sw se hse hsl (senseM (lexP nums names nots) a) (senseM (lexP nums names nots) b) _ _ rfl rfl (by omega) (by omega)
      rw [if_pos h2]
      rw [h2] at h52
      rw [troubleN]
      generalize levS (mayB sw) (senseM (lexP nums names nots) a) (senseM (lexP nums names nots) b) (senseM (lexP nums names nots) a).length (senseM (lexP nums names nots) b).length = v at h53 ⊢
      generalize (senseM (lexP nums names nots) a).map (fun x => [D.int .u8 x.k, D.int .i64 x.v]) = S1 at s1 h53
      generalize (senseM (lexP nums names nots) b).map (fun x => [D.int .u8 x.k, D.int .i64 x.v]) = S2 at s2 h53
      generalize eM (lexP nums names nots) = E at h51 s1 s2 h53
      clear hx h0 h2 h3 h4 h5 h6 l1 l2
      refine start c18 rfl ?_
      intro r' hr G hG hGW lt le eq add sub mul quo rem conv strEq strLt strCat strLen strAt strCut bytes ofBytes len nth cut fits app rep setEl look upd ne strNe H
      have n0 : ne 0 0 = false := by rw [H.ne]; rfl
      (try cbv)
      repeat' (first | ((refine call0 (hG _ _ _ h51) ?_); (try cbv)) | (rw [n0]; (try cbv)) | ((refine callI (hG _ _ _ h52) ?_; intro b hb; subst hb); (try cbv)) | ((refine callI (hG _ _ _ h53) ?_; intro b hb; subst hb); (try cbv)) | ((refine call0 (hG _ _ _ s1) ?_); (try cbv)) | ((refine call0 (hG _ _ _ s2) ?_); (try cbv)) | fail)
      rw [hr]
    · rw [if_neg h2]
      generalize eM (lexP nums names nots) = E at h51
      generalize listedS' [a, b] = c at h52 h2 ⊢
      clear hx h0
      refine start c18 rfl ?_
      intro r' hr G hG hGW lt le eq add sub mul quo rem conv strEq strLt strCat strLen strAt strCut bytes ofBytes len nth cut fits app rep setEl look upd ne strNe H
      have n0 : ne 0 0 = false := by rw [H.ne]; rfl
      have n1 : ne c 0 = true := by rw [H.ne]; simpa using h2
      (try cbv)
      repeat' (first | ((refine call0 (hG _ _ _ h51) ?_); (try cbv)) | (rw [n0]; (try cbv)) | ((refine callI (hG _ _ _ h52) ?_; intro b hb; subst hb); (try cbv)) | (rw [n1]; (try cbv)) | fail)
      rw [hr]
  · rw [if_neg h0] at h51
    rw [if_neg h0, if_neg h0]
    generalize ruledE nums names nots sw = c at h51 h0 ⊢
    clear hx
    refine start c18 rfl ?_
    intro r' hr G hG hGW lt le eq add sub mul quo rem conv strEq strLt strCat strLen strAt strCut bytes ofBytes len nth cut fits app rep setEl look upd ne strNe H
    have n1 : ne c 0 = true := by rw [H.ne]; simpa using h0
    (try cbv)
    repeat' (first | ((refine call0 (hG _ _ _ h51) ?_); (try cbv)) | (rw [n1]; (try cbv)) | fail)
    rw [hr]
/-! ### the examples -/
def txD (l : List ByteArray) : List (List D) := l.map fun s => [.str s]
def exNums : List Num := [⟨⟨#[116, 101, 110]⟩, 10⟩, ⟨⟨#[109, 105, 108, 108, 105, 111, 110]⟩, 1000000⟩]
def exNames : List (List ByteArray) := [[⟨#[83, 109, 105, 116, 104]⟩, ⟨#[83, 109, 121, 116, 104]⟩], [⟨#[74, 111, 110, 101, 115]⟩]]
def exNots : List ByteArray := [⟨#[110, 111, 116]⟩, ⟨#[110, 101, 118, 101, 114]⟩]
def exSw : List Swp := [⟨1, 10, 12⟩]
def exWords : List Sd := [⟨⟨#[83, 109, 105, 116, 104]⟩, 1⟩, ⟨⟨#[112, 97, 105, 100]⟩, 1⟩, ⟨⟨#[116, 101, 110]⟩, 1⟩, ⟨⟨#[121, 101, 115]⟩, 2⟩]
def exRq : List Rq := [⟨1, 120, 1, 1, [⟨#[104, 97, 115]⟩, ⟨#[112, 97, 105, 100]⟩]⟩, ⟨1, 110, 2, 1, [⟨#[49, 50]⟩]⟩, ⟨2, 130, 2, 1, [⟨#[49, 48]⟩]⟩, ⟨2, 161, 3, 1, [⟨#[110, 111]⟩]⟩, ⟨2, 160, 3, 1, [⟨#[110, 111, 116]⟩]⟩]
theorem g48 : GG 48 [] (.many [(true, [.row 2 (exNums.map fun x => [.str x.t, .int .i64 x.v]), .row 1 (exNames.map fun x => [.row 1 (x.map fun s => [.str s])]), .row 1 (txD exNots)]), (false, [.row 3 (exSw.map fun x => [.int .u8 x.k, .int .i64 x.o, .int .i64 x.n])])]) := by
  refine start c48 rfl ?_
  intro r' hr G hG hGW lt le eq add sub mul quo rem conv strEq strLt strCat strLen strAt strCut bytes ofBytes len nth cut fits app rep setEl look upd ne strNe H
  (try cbv)
  repeat' (first | fail)
  rw [hr]
  rfl
theorem g49 : GG 49 [] (.many [(true, [.row 2 (exWords.map fun x => [.str x.t, .int .i64 x.sp]), .int .i64 100, .int .i64 60]), (false, [.row 5 (exRq.map rqD)])]) := by
  refine start c49 rfl ?_
  intro r' hr G hG hGW lt le eq add sub mul quo rem conv strEq strLt strCat strLen strAt strCut bytes ofBytes len nth cut fits app rep setEl look upd ne strNe H
  (try cbv)
  repeat' (first | fail)
  rw [hr]
  rfl
end Go.Vi
