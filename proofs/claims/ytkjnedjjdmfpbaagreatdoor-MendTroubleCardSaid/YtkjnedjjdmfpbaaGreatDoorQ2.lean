/-
  Contract of the reference's error of a request.
-/
import Derived.Test.YtkjnedjjdmfpbaaGreatDoorQ1
set_option linter.unusedVariables false
set_option linter.unusedSimpArgs false
set_option linter.unusedSectionVars false
namespace Go.Vi
open Go.Proofs
set_option maxRecDepth 100000
set_option linter.unusedVariables false
set_option linter.unusedSimpArgs false
theorem becomes_eq (sw : List Swp) : becomes sw = mayB sw := by
  funext a b
  rw [becomes, mayB]
  congr 1
  rw [Bool.eq_iff_iff]
  simp only [List.any_eq_true, Bool.and_eq_true, decide_eq_true_eq]
  constructor
  · rintro ⟨s, hs, h1, h2, h3, h4⟩
    exact ⟨h1, s, hs, by obtain ⟨a, b, c⟩ := s; simp_all⟩
  · rintro ⟨h1, s, hs, rfl⟩
    exact ⟨_, hs, h1, rfl, rfl, rfl⟩
theorem posOr (c m : Nat) : decide (0 < (c : Int) + m) = !(decide ((c : Int) = 0) && decide ((m : Int) = 0)) := by
  rw [Bool.eq_iff_iff]
  simp only [decide_eq_true_eq, Bool.not_eq_true', Bool.and_eq_false_iff, decide_eq_false_iff_not]
  omega
theorem proper_eq (b : Int) (c : Nat) (hc : (c : Int) < 9223372036854775808) (p : List ByteArray) (hp : p.length ≤ maxLen) :
    properS b c p = (decide ((c : Int) ≤ 8) && (texts p 8 && (!(decide ((c : Int) = 0) && decide ((p.length : Int) = 0)) && inR b 0 999))) := by
  rw [properS, texts]
  by_cases h1 : (c : Int) ≤ 8
  · by_cases h2 : p.length ≤ 8
    · have e : w64 ((c : Int) + p.length) = (c : Int) + p.length := by rw [w64, wrap64 (by omega) (by omega)]
      have e2 : (p.length : Int) ≤ 8 := by omega
      rw [e, decide_eq_true h1, decide_eq_true h2, decide_eq_true e2]
      rw [posOr]
      cases p.all textOk <;> simp
    · have e2 : ¬ (p.length : Int) ≤ 8 := by omega
      rw [decide_eq_false h2, decide_eq_false e2]
      simp
  · rw [decide_eq_false h1]
    simp
/-- The error of a request alone. -/
def aloneS (L : List (ByteArray × Mrk)) (sw : List Swp) (l : List Sd) (o w : Int) (q : Rq) : Int :=
  firstBad [(insideS l.length q.frm q.cut, 2), (properS q.by' q.cut q.put, 1), (ownS l q.frm.toNat q.cut.toNat q.by', 5), (inR q.minute o (w64 (o + w)), 11), (keptS L sw l q.frm.toNat q.cut.toNat q.put, 9)]
theorem refS_alone (L : List (ByteArray × Mrk)) (sw : List Swp) (l : List Sd) (o w : Int) (acc : List Rq) (q : Rq) : refS L sw l o w acc q = if aloneS L sw l o w q = 0 then (if freeS acc q.frm q.cut = true then 0 else 6) else aloneS L sw l o w q := by
  rw [refS, aloneS]
  simp only [firstBad]
  cases insideS l.length q.frm q.cut <;> cases properS q.by' q.cut q.put <;> cases ownS l q.frm.toNat q.cut.toNat q.by' <;> cases inR q.minute o (w64 (o + w)) <;> cases keptS L sw l q.frm.toNat q.cut.toNat q.put <;> cases freeS acc q.frm q.cut <;> rfl
theorem ownsS_nat (l : List Sd) (i : Nat) (b : Int) : ownsS l (i : Int) b = (l[i]?.map fun x => decide (x.sp = b)).getD false := by
  have h0 : (0 : Int) ≤ (i : Int) := Int.natCast_nonneg _
  rw [ownsS, decide_eq_true h0, Int.toNat_natCast, Bool.true_and]
  cases l[i]? <;> rfl
theorem own0 (l : List Sd) (f : Nat) (b : Int) (hf : f ≤ l.length) : ownS l f 0 b = (ownsS l ((f : Int) - 1) b || ownsS l f b) := by
  rw [ownS, if_neg (by decide), ownsS_nat]
  rcases f with _ | f
  · have h1 : ownsS l (((0 : Nat) : Int) - 1) b = false := by simp [ownsS]
    rw [h1, Bool.false_or]
    rcases l with _ | ⟨x, r⟩
    · rfl
    · simp
  · have h1 : (((f + 1 : Nat) : Int) - 1) = (f : Int) := by omega
    rw [h1, ownsS_nat]
    have hf2 : f < l.length := by omega
    rw [Nat.add_sub_cancel, List.drop_eq_getElem_cons hf2, List.getElem?_eq_getElem hf2]
    by_cases h3 : f + 1 < l.length
    · rw [show min l.length (f + 1 + 1) - f = 2 by omega, List.drop_eq_getElem_cons h3, List.getElem?_eq_getElem h3, List.take_succ_cons, List.take_succ_cons, List.take_zero]
      simp
    · rw [show min l.length (f + 1 + 1) - f = 1 by omega, List.getElem?_eq_none (by omega), List.take_succ_cons, List.take_zero]
      simp
set_option maxHeartbeats 4000000 in
theorem g63 {nums names nots e1 e2 e3} (hx : LexIn nums names nots e1 e2 e3) (ht : LexThin nums names nots) (sw : List Swp) (se : List (List D)) (hse : swE sw se) (hsl : sw.length ≤ maxLen) (l : List Sd) (we : List (List D)) (he : sdE l we) (hl : l.length ≤ 100000) (hls : ∀ x ∈ l, x.t.size ≤ maxLen) (o w : Int) (q : Rq) (hq : RqIn q) :
    GG 63 [(true, [.row 2 e1, .row 1 e2, .row 1 e3]), (false, [.row 3 se]), (true, [.row 2 we, .int .i64 o, .int .i64 w]), (true, rqD q)] (.one (false, [.int .i64 (aloneS (lexP nums names nots) sw l o w q)])) := by
  obtain ⟨qb, qm, qf, qc, qp⟩ := q
  obtain ⟨hqc, hqp⟩ := hq
  dsimp only at hqc hqp
  have hlen := map_len he
  have h93 : ∀ i, GG 93 [(true, [.row 2 we, .int .i64 o, .int .i64 w]), (false, [.int .i64 i]), (false, [.int .i64 qb])] (.one (false, [.bool (ownsS l i qb)])) := fun i => g93 l we he hl o w i qb
  have h55 := g55 qp _ rfl hqp 8
  have hpl : (qp.map fun s => [D.str s]).length = qp.length := by simp
  rw [aloneS]
  dsimp only [rqD]
  by_cases hin : insideS l.length qf qc = true
  rotate_left
  · have hin : insideS l.length qf qc = false := by simpa using hin
    have key := hin
    simp only [insideS] at key
    rw [hin]
    clear h55 hpl hin h93
    generalize putD qp = pd
    refine start c63 rfl ?_
    intro r' hr G hG hGW lt le eq add sub mul quo rem conv strEq strLt strCat strLen strAt strCut bytes ofBytes len nth cut fits app rep setEl look upd ne strNe H
    have key : (!lt qf 0 && (!lt qc 0 && !lt (sub .i64 (len we) qc) qf)) = false := by
      rw [← key, H.lt, H.lt, H.lt, H.sub, H.len, hlen, w64]
      congr 1
      · rw [Bool.eq_iff_iff]; simp
      · congr 1
        · rw [Bool.eq_iff_iff]; simp
        · rw [Bool.eq_iff_iff]; simp
    cases c1 : lt qf 0 <;> cases c2 : lt qc 0 <;> cases c3 : lt (sub .i64 (len we) qc) qf <;> rw [c1, c2, c3] at key <;> first | (cases key; done) | skip
    all_goals
      (try cbv)
      repeat' (first | (rw [c1]; (try cbv)) | (rw [c2]; (try cbv)) | (rw [c3]; (try cbv)) | fail)
      rw [hr]; rfl
  obtain ⟨f, c, rfl, rfl, hfc⟩ := inside_nat hl hqc hin
  rw [hin]
  rw [Int.toNat_natCast, Int.toNat_natCast]
  have hprop := proper_eq qb c hqc qp hqp.1
  have h28 : GG 28 _ (.one (false, [.bool (inR qb 0 999)])) := g28 qb 0 999
  have hw : w64 ((f : Int) + c) = ((f + c : Nat) : Int) := by rw [w64, wrap64 (by omega) (by omega)]; rfl
  have hol := oldsS_len l f (f + c)
  have h47 := g47 l we he hl o w f (f + c) (by omega) hfc
  have s1 := fun hss => g25 nums names nots e1 e2 e3 hx.he1 hx.he2 hx.he3 hx.hm1 hx.hm2 hx.hm3.1 (fun x h => (hx.hm4 x h).1) (oldsS l f (f + c)) _ rfl (by omega) hss
  have s1 := s1 (fun s hs => by obtain ⟨x, hx, rfl⟩ := oldsS_mem hs; exact hls x hx)
  rw [senseR_eq] at s1
  have hown : ownS l f c qb = if c = 0 then (ownsS l ((f : Int) - 1) qb || ownsS l f qb) else ((l.drop f).take c).all (fun x => decide (x.sp = qb)) := by
    by_cases h : c = 0
    · subst h; rw [if_pos rfl, own0 l f qb (by omega)]
    · rw [if_neg h, ownS, if_pos (by omega)]
  obtain ⟨l2, hl2⟩ : ∃ l2, l2 = (l.drop f).take c := ⟨_, rfl⟩
  have hl2n : l2.length = c := by rw [hl2]; simp; omega
  have hl2g : ∀ k, k < c → l2[k]? = l[f + k]? := fun k hk => by rw [hl2, List.getElem?_take_of_lt hk, List.getElem?_drop]
  rw [← hl2] at hown
  have s2 := fun (h : qp.length ≤ 100000) => g25 nums names nots e1 e2 e3 hx.he1 hx.he2 hx.he3 hx.hm1 hx.hm2 hx.hm3.1 (fun x h => (hx.hm4 x h).1) qp _ rfl h hqp.2
  rw [senseR_eq] at s2
  have h94 := fun (h : qp.length ≤ 100000) => g94 sw se hse hsl (senseM (lexP nums names nots) (oldsS l f (f + c))) (senseM (lexP nums names nots) qp) _ _ rfl rfl (by have := senseM_len (lexP nums names nots) (oldsS l f (f + c)); simp only [maxLen] at *; omega) (by have := senseM_len (lexP nums names nots) qp; simp only [maxLen] at *; omega)
  rw [becomes_eq] at h94
  rw [keptS]
  generalize eqGo (mayB sw) (senseM (lexP nums names nots) (oldsS l f (f + c))) (senseM (lexP nums names nots) qp) = res at h94 ⊢
  generalize (senseM (lexP nums names nots) (oldsS l f (f + c))).map (fun x => [D.int .u8 x.k, D.int .i64 x.v]) = S1 at s1 h94
  generalize (senseM (lexP nums names nots) qp).map (fun x => [D.int .u8 x.k, D.int .i64 x.v]) = S2 at s2 h94
  generalize (oldsS l f (f + c)).map (fun s => [D.str s]) = T1 at h47 s1
  rw [putD]
  obtain ⟨pe, hpe⟩ : ∃ pe, pe = qp.map fun s => [D.str s] := ⟨_, rfl⟩
  rw [← hpe] at hpl h55 s2 ⊢
  have hfd : ∀ k, k ≤ c → IntKind.i64.wrap (((f + k : Nat) : Int) + 1) = ((f + (k + 1) : Nat) : Int) := fun k hk => by rw [wrap64 (by omega) (by omega)]; omega
  have hfm : IntKind.i64.wrap ((f : Int) - 1) = (f : Int) - 1 := by rw [wrap64 (by omega) (by omega)]
  clear hx ht hse hsl hol hls he
  refine start c63 rfl ?_
  intro r' hr G hG hGW lt le eq add sub mul quo rem conv strEq strLt strCat strLen strAt strCut bytes ofBytes len nth cut fits app rep setEl look upd ne strNe H
  have c1 : lt (f : Int) 0 = false := by rw [H.lt]; exact decide_eq_false (by omega)
  have c2 : lt (c : Int) 0 = false := by rw [H.lt]; exact decide_eq_false (by omega)
  have c3 : lt (sub .i64 (len we) (c : Int)) (f : Int) = false := by
    rw [H.lt, H.sub, H.len, hlen, wrap64 (by omega) (by omega)]
    exact decide_eq_false (by omega)
  have hadd : add .i64 (f : Int) (c : Int) = ((f + c : Nat) : Int) := by rw [H.add]; exact hw
  have hsub : sub .i64 (f : Int) 1 = (f : Int) - 1 := by rw [H.sub, hfm]
  have k1 : lt 8 (c : Int) = !decide ((c : Int) ≤ 8) := by rw [H.lt, Bool.eq_iff_iff]; simp
  have k2 : eq (c : Int) 0 = decide ((c : Int) = 0) := H.eq _ _
  have k3 : eq (len pe) 0 = decide ((qp.length : Int) = 0) := by rw [H.eq, H.len, hpl]
  obtain ⟨FF, hFF⟩ : ∃ F : Nat → Int, ∀ k, F k = ((f + k : Nat) : Int) := ⟨_, fun _ => rfl⟩
  have hF0 : (f : Int) = FF 0 := by rw [hFF]; rfl
  have hFa : ∀ k, k ≤ c → add .i64 (FF k) 1 = FF (k + 1) := fun k hk => by rw [H.add, hFF, hFF, hfd k hk]
  have hFl : ∀ k, lt (FF k) ((f + c : Nat) : Int) = decide (k < c) := fun k => by
    rw [H.lt, hFF, Bool.eq_iff_iff, decide_eq_true_eq, decide_eq_true_eq]; omega
  have hFo : ∀ k x, l[f + k]? = some x → ownsS l (FF k) qb = decide (x.sp = qb) := fun k x h => by
    rw [hFF, ownsS_nat, h]
    rfl
  have hm1 : lt qm o = !decide (o ≤ qm) := by rw [H.lt, Bool.eq_iff_iff]; simp
  have hm2 : lt (add .i64 o w) qm = !decide (qm ≤ w64 (o + w)) := by rw [H.lt, H.add, w64, Bool.eq_iff_iff]; simp
  rw [hprop] at hr
  have hin3 : inR qm o (w64 (o + w)) = (!lt qm o && !lt (add .i64 o w) qm) := by rw [hm1, hm2, inR]; simp
  rw [hin3] at hr
  clear hin3 hm1 hm2
  have hprop2 : (decide ((c : Int) ≤ 8) && (texts qp 8 && (!(decide ((c : Int) = 0) && decide ((qp.length : Int) = 0)) && inR qb 0 999))) = (!lt 8 (c : Int) && (texts qp 8 && (!(eq (c : Int) 0 && eq (len pe) 0) && inR qb 0 999))) := by rw [k1, k2, k3]; simp
  rw [hprop2] at hr
  have hc0 : eq (c : Int) 0 = decide (c = 0) := by rw [k2, Bool.eq_iff_iff, decide_eq_true_eq, decide_eq_true_eq]; omega
  have hqp1 : texts qp 8 = true → qp.length ≤ 100000 := fun h => by
    simp only [texts, Bool.and_eq_true, decide_eq_true_eq] at h
    omega
  clear hprop hprop2 k1 k2 k3 hFF
  generalize inR qb 0 999 = b28 at h28 hr
  generalize texts qp 8 = b55 at h55 hr hqp1
  have hown1 := h93 ((f : Int) - 1)
  have hown2 := h93 (f : Int)
  rw [← hsub] at hown1 hown
  generalize ((f + c : Nat) : Int) = fc at *
  clear hfm hsub hfd hw hlen
  generalize (f : Int) = ff at *
  generalize (c : Int) = cc at *
  obtain ⟨oA, hoA⟩ : ∃ b, b = ownsS l (sub .i64 ff 1) qb := ⟨_, rfl⟩
  obtain ⟨oB, hoB⟩ : ∃ b, b = ownsS l ff qb := ⟨_, rfl⟩
  rw [← hoA] at hown hown1
  rw [← hoB] at hown hown2
  clear hoA hoB
  cases d1 : lt 8 cc
  rotate_left
  · rw [d1] at hr
    (try cbv)
    repeat' (first | (rw [c1]; (try cbv)) | (rw [c2]; (try cbv)) | (rw [c3]; (try cbv)) | (rw [d1]; (try cbv)) | fail)
    rw [hr]; rfl
  cases b55
  · rw [d1] at hr
    (try cbv)
    repeat' (first | (rw [c1]; (try cbv)) | (rw [c2]; (try cbv)) | (rw [c3]; (try cbv)) | (rw [d1]; (try cbv)) | ((refine callB (hG _ _ _ h55) ?_; intro b hb; subst hb); (try cbv)) | fail)
    rw [hr]; rfl
  have s2 := s2 (hqp1 rfl)
  have h94 := h94 (hqp1 rfl)
  clear hqp1
  cases d2 : eq cc 0 && eq (len pe) 0
  rotate_left
  · rw [d1, d2] at hr
    obtain ⟨d3, d4⟩ : eq cc 0 = true ∧ eq (len pe) 0 = true := by simpa using d2
    (try cbv)
    repeat' (first | (rw [c1]; (try cbv)) | (rw [c2]; (try cbv)) | (rw [c3]; (try cbv)) | (rw [d1]; (try cbv)) | ((refine callB (hG _ _ _ h55) ?_; intro b hb; subst hb); (try cbv)) | (rw [d3]; (try cbv)) | (rw [d4]; (try cbv)) | fail)
    rw [hr]; rfl
  cases b28
  · rw [d1, d2] at hr
    cases d3 : eq cc 0
    · (try cbv)
      repeat' (first | (rw [c1]; (try cbv)) | (rw [c2]; (try cbv)) | (rw [c3]; (try cbv)) | (rw [d1]; (try cbv)) | ((refine callB (hG _ _ _ h55) ?_; intro b hb; subst hb); (try cbv)) | (rw [d3]; (try cbv)) | ((refine callB (hG _ _ _ h28) ?_; intro b hb; subst hb); (try cbv)) | fail)
      rw [hr]; rfl
    · have d4 : eq (len pe) 0 = false := by simpa [d3] using d2
      (try cbv)
      repeat' (first | (rw [c1]; (try cbv)) | (rw [c2]; (try cbv)) | (rw [c3]; (try cbv)) | (rw [d1]; (try cbv)) | ((refine callB (hG _ _ _ h55) ?_; intro b hb; subst hb); (try cbv)) | (rw [d3]; (try cbv)) | (rw [d4]; (try cbv)) | ((refine callB (hG _ _ _ h28) ?_; intro b hb; subst hb); (try cbv)) | fail)
      rw [hr]; rfl
  rw [d1, d2] at hr
  have cases3 : (c ≠ 0 ∧ eq cc 0 = false) ∨ (c = 0 ∧ eq cc 0 = true ∧ eq (len pe) 0 = false) := by
    by_cases h : c = 0
    · have d3 : eq cc 0 = true := by rw [hc0]; exact decide_eq_true h
      exact .inr ⟨h, d3, by simpa [d3] using d2⟩
    · exact .inl ⟨h, by rw [hc0]; exact decide_eq_false h⟩
  have hr0 : ∀ b : Bool, ownS l f c qb = b → r' = .one (false, [.int .i64 (firstBad [(b, 5), (!lt qm o && !lt (add .i64 o w) qm, 11), (res, 9)])]) := fun b hb => by rw [hr, hb]; rfl
  clear hr d2 hc0
  have hz : c = 0 → l2.all (fun x => decide (x.sp = qb)) = true := fun h => by
    have : l2 = [] := List.eq_nil_of_length_eq_zero (by omega)
    rw [this]; rfl
  rcases cases3 with ⟨h0, d3⟩ | ⟨h0, d3, d4⟩
  · rw [if_neg h0] at hown
    have hr := hr0 _ hown
    clear hown hr0 hz
    (try cbv)
    repeat' (first | (rw [c1]; (try cbv)) | (rw [c2]; (try cbv)) | (rw [c3]; (try cbv)) | (rw [d1]; (try cbv)) | ((refine callB (hG _ _ _ h55) ?_; intro b hb; subst hb); (try cbv)) | (rw [d3]; (try cbv)) | ((refine callB (hG _ _ _ h28) ?_; intro b hb; subst hb); (try cbv)) | fail)
    clear hown1 hown2 h55 h28 c1 c2 c3 d1
    refine loopK ?_
    intro K hK
    obtain ⟨N, hN⟩ : ∃ N, N = c := ⟨_, rfl⟩
    obtain ⟨P, hP⟩ : ∃ P : Nat → Prop, ∀ k, P k = (r' = .one (false, [.int .i64 (firstBad [((l2.drop k).all (fun x => decide (x.sp = qb)), 5), (!lt qm o && !lt (add .i64 o w) qm, 11), (res, 9)])])) := ⟨_, fun _ => rfl⟩
    refine loopV N (fun k => [(1, .v false [.d (.row 3 se)]), (4, .v false [.loc 0 0]), (6, .v false [.loc 1 0]), (7, .v false [.loc 2 0]), (9, .v false [.d (.int .i64 (FF k))])]) (fun k => [(0, .blk [.d (.row 2 e1), .d (.row 1 e2), .d (.row 1 e3)]), (1, .blk [.d (.row 2 we), .d (.int .i64 o), .d (.int .i64 w)]), (2, .blk [.d (.int .i64 qb), .d (.int .i64 qm), .d (.int .i64 ff), .d (.int .i64 cc), .d (.row 1 pe)])]) P ?_ ?_ ?_
    · rw [hF0]; exact ⟨rfl, rfl⟩
    · rw [hP]; exact hr
    intro k hk hr
    rw [hN] at hk
    rw [hP] at hr
    by_cases hkc : k < c
    · have g1 : lt (FF k) fc = true := by rw [hFl]; exact decide_eq_true hkc
      have g3 := hFa k hk
      obtain ⟨x, hx2⟩ : ∃ x, l2[k]? = some x := ⟨_, List.getElem?_eq_getElem (by omega)⟩
      have hd : l2.drop k = x :: l2.drop (k + 1) := by
        rw [List.drop_eq_getElem_cons (by omega)]
        congr 1
        exact (List.getElem?_eq_some_iff.1 hx2).2
      have hc9 := h93 (FF k)
      rw [hFo k x (by rw [← hl2g k hkc]; exact hx2)] at hc9
      rw [hd, List.all_cons] at hr
      generalize decide (x.sp = qb) = bb at hc9 hr
      cases bb
      · (try cbv)
        repeat' (first | (rw [hadd]; (try cbv)) | (rw [g1]; (try cbv)) | ((refine callB (hG _ _ _ hc9) ?_; intro b hb; subst hb); (try cbv)) | (rw [hK]; (try cbv)) | fail)
        rw [hr]; rfl
      · (try cbv)
        repeat' (first | (rw [hadd]; (try cbv)) | (rw [g1]; (try cbv)) | ((refine callB (hG _ _ _ hc9) ?_; intro b hb; subst hb); (try cbv)) | fail)
        exact ⟨by rw [hN]; exact hkc, by rw [hP]; exact hr, by rw [g3], trivial⟩
    · have g1 : lt (FF k) fc = false := by rw [hFl]; exact decide_eq_false hkc
      have hd : l2.drop k = [] := List.drop_of_length_le (by omega)
      rw [hd] at hr
      clear h93 hFo hFa hFl hl2g
      cases e1 : lt qm o
      · cases e2 : lt (add .i64 o w) qm
        · rw [e1, e2] at hr
          (try cbv)
          repeat' (first | (rw [hadd]; (try cbv)) | (rw [g1]; (try cbv)) | (rw [hK]; (try cbv)) | (rw [e1]; (try cbv)) | (rw [e2]; (try cbv)) | ((refine call0 (hG _ _ _ h47) ?_); (try cbv)) | ((refine call0 (hG _ _ _ s1) ?_); (try cbv)) | ((refine call0 (hG _ _ _ s2) ?_); (try cbv)) | ((refine callB (hG _ _ _ h94) ?_; intro b hb; subst hb); (try cbv)) | fail)
          all_goals first | (rw [hr]; rfl) | (cases b <;> cbv <;> (rw [hr]; rfl))
        · rw [e1, e2] at hr
          (try cbv)
          repeat' (first | (rw [hadd]; (try cbv)) | (rw [g1]; (try cbv)) | (rw [hK]; (try cbv)) | (rw [e1]; (try cbv)) | (rw [e2]; (try cbv)) | fail)
          rw [hr]; rfl
      · rw [e1] at hr
        (try cbv)
        repeat' (first | (rw [hadd]; (try cbv)) | (rw [g1]; (try cbv)) | (rw [hK]; (try cbv)) | (rw [e1]; (try cbv)) | fail)
        rw [hr]; rfl
  · rw [if_pos h0] at hown
    cases oA
    · cases oB
      · have hr := hr0 _ hown
        (try cbv)
        repeat' (first | (rw [c1]; (try cbv)) | (rw [c2]; (try cbv)) | (rw [c3]; (try cbv)) | (rw [d1]; (try cbv)) | ((refine callB (hG _ _ _ h55) ?_; intro b hb; subst hb); (try cbv)) | (rw [d3]; (try cbv)) | (rw [d4]; (try cbv)) | ((refine callB (hG _ _ _ h28) ?_; intro b hb; subst hb); (try cbv)) | ((refine callB (hG _ _ _ hown1) ?_; intro b hb; subst hb); (try cbv)) | ((refine callB (hG _ _ _ hown2) ?_; intro b hb; subst hb); (try cbv)) | fail)
        rw [hr]; rfl
      · have hr := hr0 _ (hown.trans (hz h0).symm)
        clear hown hr0 hz
        (try cbv)
        repeat' (first | (rw [c1]; (try cbv)) | (rw [c2]; (try cbv)) | (rw [c3]; (try cbv)) | (rw [d1]; (try cbv)) | ((refine callB (hG _ _ _ h55) ?_; intro b hb; subst hb); (try cbv)) | (rw [d3]; (try cbv)) | (rw [d4]; (try cbv)) | ((refine callB (hG _ _ _ h28) ?_; intro b hb; subst hb); (try cbv)) | ((refine callB (hG _ _ _ hown1) ?_; intro b hb; subst hb); (try cbv)) | ((refine callB (hG _ _ _ hown2) ?_; intro b hb; subst hb); (try cbv)) | fail)
        clear hown1 hown2 h55 h28 c1 c2 c3 d1
        refine loopK ?_
        intro K hK
        obtain ⟨N, hN⟩ : ∃ N, N = c := ⟨_, rfl⟩
        obtain ⟨P, hP⟩ : ∃ P : Nat → Prop, ∀ k, P k = (r' = .one (false, [.int .i64 (firstBad [((l2.drop k).all (fun x => decide (x.sp = qb)), 5), (!lt qm o && !lt (add .i64 o w) qm, 11), (res, 9)])])) := ⟨_, fun _ => rfl⟩
        refine loopV N (fun k => [(1, .v false [.d (.row 3 se)]), (4, .v false [.loc 0 0]), (6, .v false [.loc 1 0]), (7, .v false [.loc 2 0]), (9, .v false [.d (.int .i64 (FF k))])]) (fun k => [(0, .blk [.d (.row 2 e1), .d (.row 1 e2), .d (.row 1 e3)]), (1, .blk [.d (.row 2 we), .d (.int .i64 o), .d (.int .i64 w)]), (2, .blk [.d (.int .i64 qb), .d (.int .i64 qm), .d (.int .i64 ff), .d (.int .i64 cc), .d (.row 1 pe)])]) P ?_ ?_ ?_
        · rw [hF0]; exact ⟨rfl, rfl⟩
        · rw [hP]; exact hr
        intro k hk hr
        rw [hN] at hk
        rw [hP] at hr
        by_cases hkc : k < c
        · have g1 : lt (FF k) fc = true := by rw [hFl]; exact decide_eq_true hkc
          have g3 := hFa k hk
          obtain ⟨x, hx2⟩ : ∃ x, l2[k]? = some x := ⟨_, List.getElem?_eq_getElem (by omega)⟩
          have hd : l2.drop k = x :: l2.drop (k + 1) := by
            rw [List.drop_eq_getElem_cons (by omega)]
            congr 1
            exact (List.getElem?_eq_some_iff.1 hx2).2
          have hc9 := h93 (FF k)
          rw [hFo k x (by rw [← hl2g k hkc]; exact hx2)] at hc9
          rw [hd, List.all_cons] at hr
          generalize decide (x.sp = qb) = bb at hc9 hr
          cases bb
          · (try cbv)
            repeat' (first | (rw [hadd]; (try cbv)) | (rw [g1]; (try cbv)) | ((refine callB (hG _ _ _ hc9) ?_; intro b hb; subst hb); (try cbv)) | (rw [hK]; (try cbv)) | fail)
            rw [hr]; rfl
          · (try cbv)
            repeat' (first | (rw [hadd]; (try cbv)) | (rw [g1]; (try cbv)) | ((refine callB (hG _ _ _ hc9) ?_; intro b hb; subst hb); (try cbv)) | fail)
            exact ⟨by rw [hN]; exact hkc, by rw [hP]; exact hr, by rw [g3], trivial⟩
        · have g1 : lt (FF k) fc = false := by rw [hFl]; exact decide_eq_false hkc
          have hd : l2.drop k = [] := List.drop_of_length_le (by omega)
          rw [hd] at hr
          clear h93 hFo hFa hFl hl2g
          cases e1 : lt qm o
          · cases e2 : lt (add .i64 o w) qm
            · rw [e1, e2] at hr
              (try cbv)
              repeat' (first | (rw [hadd]; (try cbv)) | (rw [g1]; (try cbv)) | (rw [hK]; (try cbv)) | (rw [e1]; (try cbv)) | (rw [e2]; (try cbv)) | ((refine call0 (hG _ _ _ h47) ?_); (try cbv)) | ((refine call0 (hG _ _ _ s1) ?_); (try cbv)) | ((refine call0 (hG _ _ _ s2) ?_); (try cbv)) | ((refine callB (hG _ _ _ h94) ?_; intro b hb; subst hb); (try cbv)) | fail)
              all_goals first | (rw [hr]; rfl) | (cases b <;> cbv <;> (rw [hr]; rfl))
            · rw [e1, e2] at hr
              (try cbv)
              repeat' (first | (rw [hadd]; (try cbv)) | (rw [g1]; (try cbv)) | (rw [hK]; (try cbv)) | (rw [e1]; (try cbv)) | (rw [e2]; (try cbv)) | fail)
              rw [hr]; rfl
          · rw [e1] at hr
            (try cbv)
            repeat' (first | (rw [hadd]; (try cbv)) | (rw [g1]; (try cbv)) | (rw [hK]; (try cbv)) | (rw [e1]; (try cbv)) | fail)
            rw [hr]; rfl
    · have hr := hr0 _ (hown.trans (hz h0).symm)
      clear hown hr0 hz
      (try cbv)
      repeat' (first | (rw [c1]; (try cbv)) | (rw [c2]; (try cbv)) | (rw [c3]; (try cbv)) | (rw [d1]; (try cbv)) | ((refine callB (hG _ _ _ h55) ?_; intro b hb; subst hb); (try cbv)) | (rw [d3]; (try cbv)) | (rw [d4]; (try cbv)) | ((refine callB (hG _ _ _ h28) ?_; intro b hb; subst hb); (try cbv)) | ((refine callB (hG _ _ _ hown1) ?_; intro b hb; subst hb); (try cbv)) | fail)
      clear hown1 hown2 h55 h28 c1 c2 c3 d1
      refine loopK ?_
      intro K hK
      obtain ⟨N, hN⟩ : ∃ N, N = c := ⟨_, rfl⟩
      obtain ⟨P, hP⟩ : ∃ P : Nat → Prop, ∀ k, P k = (r' = .one (false, [.int .i64 (firstBad [((l2.drop k).all (fun x => decide (x.sp = qb)), 5), (!lt qm o && !lt (add .i64 o w) qm, 11), (res, 9)])])) := ⟨_, fun _ => rfl⟩
      refine loopV N (fun k => [(1, .v false [.d (.row 3 se)]), (4, .v false [.loc 0 0]), (6, .v false [.loc 1 0]), (7, .v false [.loc 2 0]), (9, .v false [.d (.int .i64 (FF k))])]) (fun k => [(0, .blk [.d (.row 2 e1), .d (.row 1 e2), .d (.row 1 e3)]), (1, .blk [.d (.row 2 we), .d (.int .i64 o), .d (.int .i64 w)]), (2, .blk [.d (.int .i64 qb), .d (.int .i64 qm), .d (.int .i64 ff), .d (.int .i64 cc), .d (.row 1 pe)])]) P ?_ ?_ ?_
      · rw [hF0]; exact ⟨rfl, rfl⟩
      · rw [hP]; exact hr
      intro k hk hr
      rw [hN] at hk
      rw [hP] at hr
      by_cases hkc : k < c
      · have g1 : lt (FF k) fc = true := by rw [hFl]; exact decide_eq_true hkc
        have g3 := hFa k hk
        obtain ⟨x, hx2⟩ : ∃ x, l2[k]? = some x := ⟨_, List.getElem?_eq_getElem (by omega)⟩
        have hd : l2.drop k = x :: l2.drop (k + 1) := by
          rw [List.drop_eq_getElem_cons (by omega)]
          congr 1
          exact (List.getElem?_eq_some_iff.1 hx2).2
        have hc9 := h93 (FF k)
        rw [hFo k x (by rw [← hl2g k hkc]; exact hx2)] at hc9
        rw [hd, List.all_cons] at hr
        generalize decide (x.sp = qb) = bb at hc9 hr
        cases bb
        · (try cbv)
          repeat' (first | (rw [hadd]; (try cbv)) | (rw [g1]; (try cbv)) | ((refine callB (hG _ _ _ hc9) ?_; intro b hb; subst hb); (try cbv)) | (rw [hK]; (try cbv)) | fail)
          rw [hr]; rfl
        · (try cbv)
          repeat' (first | (rw [hadd]; (try cbv)) | (rw [g1]; (try cbv)) | ((refine callB (hG _ _ _ hc9) ?_; intro b hb; subst hb); (try cbv)) | fail)
          exact ⟨by rw [hN]; exact hkc, by rw [hP]; exact hr, by rw [g3], trivial⟩
      · have g1 : lt (FF k) fc = false := by rw [hFl]; exact decide_eq_false hkc
        have hd : l2.drop k = [] := List.drop_of_length_le (by omega)
        rw [hd] at hr
        clear h93 hFo hFa hFl hl2g
        cases e1 : lt qm o
        · cases e2 : lt (add .i64 o w) qm
          · rw [e1, e2] at hr
            (try cbv)
            repeat' (first | (rw [hadd]; (try cbv)) | (rw [g1]; (try cbv)) | (rw [hK]; (try cbv)) | (rw [e1]; (try cbv)) | (rw [e2]; (try cbv)) | ((refine call0 (hG _ _ _ h47) ?_); (try cbv)) | ((refine call0 (hG _ _ _ s1) ?_); (try cbv)) | ((refine call0 (hG _ _ _ s2) ?_); (try cbv)) | ((refine callB (hG _ _ _ h94) ?_; intro b hb; subst hb); (try cbv)) | fail)
            all_goals first | (rw [hr]; rfl) | (cases b <;> cbv <;> (rw [hr]; rfl))
          · rw [e1, e2] at hr
            (try cbv)
            repeat' (first | (rw [hadd]; (try cbv)) | (rw [g1]; (try cbv)) | (rw [hK]; (try cbv)) | (rw [e1]; (try cbv)) | (rw [e2]; (try cbv)) | fail)
            rw [hr]; rfl
        · rw [e1] at hr
          (try cbv)
          repeat' (first | (rw [hadd]; (try cbv)) | (rw [g1]; (try cbv)) | (rw [hK]; (try cbv)) | (rw [e1]; (try cbv)) | fail)
          rw [hr]; rfl
end Go.Vi
