/-
  Contracts of a request's questions.
-/
import Derived.Test.YtkjnedjjdmfpbaaGreatDoorP4
set_option linter.unusedVariables false
set_option linter.unusedSimpArgs false
set_option linter.unusedSectionVars false
namespace Go.Vi
open Go.Proofs
set_option maxRecDepth 100000
set_option linter.unusedVariables false
set_option linter.unusedSimpArgs false
def sdOk (x : Sd) : Bool := textOk x.t && inR x.sp 0 999
def repOk (l : List Sd) (o w : Int) : Bool := decide (l.length ≤ 80) && (l.all sdOk && (inR o 0 100000 && inR w 0 100000))
def repE (l : List Sd) (o w : Int) : Int := if repOk l o w = true then 0 else 1
theorem g61 (l : List Sd) (es : List (List D)) (he : sdE l es) (hl : l.length ≤ maxLen) (hs : ∀ x ∈ l, x.t.size ≤ maxLen) (o w : Int) : GG 61 [(true, [.row 2 es, .int .i64 o, .int .i64 w])] (.one (false, [.int .i64 (repE l o w)])) := by
  have hlen := map_len he
  have h92 := g92 (fun x : Sd => D.str x.t) (fun x => D.int .i64 x.sp) l es he hl 91 [] [] sdOk (fun x hx => g91 x.t x.sp (hs x hx))
  have ho := g84 o 0 100000
  have hw := g84 w 0 100000
  rw [repE, repOk]
  generalize l.all sdOk = p1 at h92 ⊢
  generalize inR o 0 100000 = p2 at ho ⊢
  generalize inR w 0 100000 = p3 at hw ⊢
  refine start c61 rfl ?_
  intro r' hr G hG hGW lt le eq add sub mul quo rem conv strEq strLt strCat strLen strAt strCut bytes ofBytes len nth cut fits app rep setEl look upd ne strNe H
  by_cases h80 : l.length ≤ 80
  · have n1 : lt 80 (len es) = false := by rw [H.len, hlen, H.gtK (c := 80) _ 80 rfl, decide_eq_false (by omega)]
    rw [decide_eq_true h80] at hr
    cases p1
    · (try cbv)
      repeat' (first | (rw [n1]; (try cbv)) | ((refine callB (hG _ _ _ h92) ?_; intro b hb; subst hb); (try cbv)) | fail)
      rw [hr]; rfl
    cases p2
    · (try cbv)
      repeat' (first | (rw [n1]; (try cbv)) | ((refine callB (hG _ _ _ h92) ?_; intro b hb; subst hb); (try cbv)) | ((refine callB (hG _ _ _ ho) ?_; intro b hb; subst hb); (try cbv)) | fail)
      rw [hr]; rfl
    cases p3
    · (try cbv)
      repeat' (first | (rw [n1]; (try cbv)) | ((refine callB (hG _ _ _ h92) ?_; intro b hb; subst hb); (try cbv)) | ((refine callB (hG _ _ _ ho) ?_; intro b hb; subst hb); (try cbv)) | ((refine callB (hG _ _ _ hw) ?_; intro b hb; subst hb); (try cbv)) | fail)
      rw [hr]; rfl
    · (try cbv)
      repeat' (first | (rw [n1]; (try cbv)) | ((refine callB (hG _ _ _ h92) ?_; intro b hb; subst hb); (try cbv)) | ((refine callB (hG _ _ _ ho) ?_; intro b hb; subst hb); (try cbv)) | ((refine callB (hG _ _ _ hw) ?_; intro b hb; subst hb); (try cbv)) | fail)
      rw [hr]; rfl
  · have n1 : lt 80 (len es) = true := by rw [H.len, hlen, H.gtK (c := 80) _ 80 rfl, decide_eq_true (by omega)]
    rw [decide_eq_false h80] at hr
    (try cbv)
    repeat' (first | (rw [n1]; (try cbv)) | fail)
    rw [hr]; rfl
theorem g36 (l : List Sd) (es : List (List D)) (he : sdE l es) (hl : l.length ≤ maxLen) (hs : ∀ x ∈ l, x.t.size ≤ maxLen) (o w : Int) : GG 36 [(true, [.row 2 es, .int .i64 o, .int .i64 w])] (.one (false, [.int .i64 (repE l o w)])) := by
  refine start c36 rfl ?_
  intro r' hr G hG hGW lt le eq add sub mul quo rem conv strEq strLt strCat strLen strAt strCut bytes ofBytes len nth cut fits app rep setEl look upd ne strNe H
  (try cbv)
  repeat' (first | (refine callI (hG _ _ _ (g61 l es he hl hs o w)) ?_; intro b61 hb61; (try cbv)) | fail)
  rw [hr, hb61]
theorem cutN (es : List (List D)) (f t : Nat) (h1 : f ≤ t) (h2 : t ≤ es.length) : prims.cut es (some (f : Int)) (some (t : Int)) = some ((es.drop f).take (t - f)) := by
  have : (0 : Int) ≤ f ∧ (f : Int) ≤ t ∧ (t : Int) ≤ es.length := ⟨by omega, by omega, by omega⟩
  simp only [prims, Option.getD_some]
  rw [if_pos this, Int.toNat_natCast, Int.toNat_natCast, List.drop_take]
theorem g68 (l : List Sd) (es : List (List D)) (he : sdE l es) (hl : l.length ≤ 100000) (o w : Int) (f t : Nat) (hf : f ≤ t) (ht : t ≤ l.length) :
    GG 68 [(true, [.row 2 es, .int .i64 o, .int .i64 w]), (false, [.int .i64 f]), (false, [.int .i64 t])] (.one (false, [.row 1 ((oldsS l f t).map fun s => [.str s])])) := by
  have hlen := map_len he
  have hc : ((l.drop f).take (t - f)).length ≤ 100000 := by simp; omega
  obtain ⟨l2, hl2⟩ : ∃ l2, l2 = (l.drop f).take (t - f) := ⟨_, rfl⟩
  obtain ⟨e2, he2⟩ : ∃ e2, e2 = (es.drop f).take (t - f) := ⟨_, rfl⟩
  have hE : e2 = l2.map fun x => [D.str x.t, .int .i64 x.sp] := by rw [he2, hl2, he, List.map_take, List.map_drop]
  have hO : oldsS l f t = l2.map (·.t) := by rw [oldsS, hl2]
  rw [← hl2] at hc
  have hc' : l2.length ≤ maxLen := Nat.le_trans hc (by decide)
  have hcut := cutN es f t hf (by omega)
  rw [← he2] at hcut
  rw [hO]
  refine start c68 rfl ?_
  intro r' hr G hG hGW lt le eq add sub mul quo rem conv strEq strLt strCat strLen strAt strCut bytes ofBytes len nth cut fits app rep setEl look upd ne strNe H
  rw [← H.cut] at hcut
  generalize (f : Int) = ff at *
  generalize (t : Int) = tt at *
  obtain ⟨A, hA⟩ : ∃ A : Nat → List (List D), ∀ k, A k = ((l2.take k).map fun x => [.str x.t]) := ⟨_, fun _ => rfl⟩
  (try cbv)
  repeat' (first | (rw [hcut]; (try cbv)) | fail)
  refine loopK ?_
  intro K hK
  obtain ⟨N, hN⟩ : ∃ N, N = l2.length := ⟨_, rfl⟩
  obtain ⟨P, hP⟩ : ∃ P : Nat → Prop, ∀ k, P k = (True) := ⟨_, fun _ => rfl⟩
  refine loopV N (fun k => [(6, .v false [.own 1]), (13, .v false [.d (.row 2 e2)]), (14, .v false [.d (.int .i64 (len e2))]), (15, .v false [.d (.int .i64 (Int.ofNat k))])]) (fun k => [(0, .blk [.d (.row 2 es), .d (.int .i64 o), .d (.int .i64 w)]), (1, .arr 9 1 (A k))]) P ?_ ?_ ?_
  · rw [hA 0]; exact ⟨rfl, rfl⟩
  · rw [hP]; trivial
  intro k hk _
  rw [hN] at hk
  rcases hd : l2.drop k with _ | ⟨x, r⟩
  · have h1 := H.rowNil hE hd hk
    (try cbv)
    repeat' (first | (rw [h1]; (try cbv)) | (rw [hK]; (try cbv)) | fail)
    rw [hr, hA, drop_nil hd hk, List.take_length, List.map_map]
    rfl
  · obtain ⟨h1, h2, h3, h4, h5⟩ := H.rowCons hE hc' hd
    have h6 : ∀ x, fits 16 (app (A k) [x]) = true := fun x => H.fitsLe (by rw [H.app, hA]; simp; omega) (by decide)
    (try cbv)
    repeat' (first | (rw [h1]; (try cbv)) | (rw [h2]; (try cbv)) | (refine ⟨(h6 _), ?_⟩; (try cbv)) | (refine ⟨lenOne rfl, ?_⟩; (try cbv)) | fail)
    exact ⟨by rw [hN]; exact h5, by rw [hP]; trivial, by rw [h3], by rw [H.app, hA, hA, take_step _ hd]⟩
/-- What decides: a frozen record. -/
def decD (we se ae wh er : List (List D)) (o w : Int) (E : List (D × List D)) : D := .ro [.row 2 we, .int .i64 o, .int .i64 w, .rmap 2 E, .row 3 se, .row 5 ae, .row 1 wh, .row 1 er] 0
def insideS (n : Nat) (f c : Int) : Bool := decide (0 ≤ f) && (decide (0 ≤ c) && decide (f ≤ w64 (n - c)))
theorem g114 (we se ae wh er : List (List D)) (o w : Int) (E : List (D × List D)) (n : Nat) (hn : we.length = n) (qb qm qf qc : Int) (qp : D) :
    GG 114 [(false, [.ro [.row 2 we, .int .i64 o, .int .i64 w, .rmap 2 E, .row 3 se, .row 5 ae, .row 1 wh, .row 1 er] 0]), (true, [.int .i64 qb, .int .i64 qm, .int .i64 qf, .int .i64 qc, qp])] (.one (false, [.bool (insideS n qf qc)])) := by
  refine start c114 rfl ?_
  intro r' hr G hG hGW lt le eq add sub mul quo rem conv strEq strLt strCat strLen strAt strCut bytes ofBytes len nth cut fits app rep setEl look upd ne strNe H
  have e1 : w64 ((n : Int) - qc) = sub .i64 (len we) qc := by rw [H.sub, H.len, hn, w64]
  simp only [insideS, e1, ← H.le] at hr
  clear e1
  (try cbv)
  repeat' (first | (split <;> rename_i heq <;> (try rw [heq]) <;> (try cbv)) | fail)
  all_goals (rw [hr]; clear hG hr; simp_all)
def properS (b c : Int) (p : List ByteArray) : Bool := decide (c ≤ 8) && (decide (p.length ≤ 8) && (p.all textOk && (decide (0 < w64 (c + p.length)) && inR b 0 999)))
theorem g115 (d : D) (qb qm qf qc : Int) (p : List ByteArray) (pe : List (List D)) (hp : txE p pe) (hs : Short p) :
    GG 115 [(false, [d]), (true, [.int .i64 qb, .int .i64 qm, .int .i64 qf, .int .i64 qc, .row 1 pe])] (.one (false, [.bool (properS qb qc p)])) := by
  have h77 := g77t p pe hp hs
  have h84 := g84 qb 0 999
  have hlen := map_len hp
  rw [properS]
  generalize p.all textOk = p1 at h77 ⊢
  generalize inR qb 0 999 = p2 at h84 ⊢
  refine start c115 rfl ?_
  intro r' hr G hG hGW lt le eq add sub mul quo rem conv strEq strLt strCat strLen strAt strCut bytes ofBytes len nth cut fits app rep setEl look upd ne strNe H
  have e1 : w64 (qc + (p.length : Int)) = add .i64 qc (len pe) := by rw [H.add, H.len, hlen, w64]
  have e2 : decide (p.length ≤ 8) = le (len pe) 8 := by rw [H.len, hlen, H.leK (c := 8) _ 8 rfl]
  simp only [e1, e2, ← H.le, ← H.lt] at hr
  clear e1 e2
  cases c1 : le qc 8
  · rw [c1] at hr
    (try cbv)
    repeat' (first | (rw [c1]; (try cbv)) | fail)
    rw [hr]; rfl
  cases c2 : le (len pe) 8
  · rw [c1, c2] at hr
    (try cbv)
    repeat' (first | (rw [c1]; (try cbv)) | (rw [c2]; (try cbv)) | fail)
    rw [hr]; rfl
  cases p1
  · rw [c1, c2] at hr
    (try cbv)
    repeat' (first | (rw [c1]; (try cbv)) | (rw [c2]; (try cbv)) | ((refine callB (hG _ _ _ h77) ?_; intro b hb; subst hb); (try cbv)) | fail)
    rw [hr]; rfl
  cases c3 : lt 0 (add .i64 qc (len pe))
  · rw [c1, c2, c3] at hr
    (try cbv)
    repeat' (first | (rw [c1]; (try cbv)) | (rw [c2]; (try cbv)) | ((refine callB (hG _ _ _ h77) ?_; intro b hb; subst hb); (try cbv)) | (rw [c3]; (try cbv)) | fail)
    rw [hr]; rfl
  rw [c1, c2, c3] at hr
  (try cbv)
  repeat' (first | (rw [c1]; (try cbv)) | (rw [c2]; (try cbv)) | ((refine callB (hG _ _ _ h77) ?_; intro b hb; subst hb); (try cbv)) | (rw [c3]; (try cbv)) | ((refine callB (hG _ _ _ h84) ?_; intro b hb; subst hb); (try cbv)) | fail)
  rw [hr]
  simp
theorem g143 (t : ByteArray) (sp qb qm qf qc : Int) (qp : D) : GG 143 [(true, [.str t, .int .i64 sp]), (false, [.ro [.int .i64 qb, .int .i64 qm, .int .i64 qf, .int .i64 qc, qp] 0])] (.one (false, [.bool (decide (sp = qb))])) := by
  refine start c143 rfl ?_
  intro r' hr G hG hGW lt le eq add sub mul quo rem conv strEq strLt strCat strLen strAt strCut bytes ofBytes len nth cut fits app rep setEl look upd ne strNe H
  rw [← H.eq] at hr
  (try cbv)
  repeat' (first | fail)
  rw [hr]
def ownS (l : List Sd) (f c : Nat) (b : Int) : Bool := if 0 < c then ((l.drop f).take c).all (fun x => decide (x.sp = b)) else ((l.drop (f - 1)).take (min l.length (f + 1) - (f - 1))).any (fun x => decide (x.sp = b))
theorem g116 (l : List Sd) (we se ae wh er : List (List D)) (he : sdE l we) (hl : l.length ≤ 100000) (o w : Int) (E : List (D × List D)) (qb qm : Int) (f c : Nat) (hfc : f + c ≤ l.length) (qp : D) :
    GG 116 [(false, [.ro [.row 2 we, .int .i64 o, .int .i64 w, .rmap 2 E, .row 3 se, .row 5 ae, .row 1 wh, .row 1 er] 0]), (true, [.int .i64 qb, .int .i64 qm, .int .i64 f, .int .i64 c, qp])] (.one (false, [.bool (ownS l f c qb)])) := by
  have hlen := map_len he
  have h69 := g69 qb qm f c qp
  have hw : w64 ((f : Int) + c) = ((f + c : Nat) : Int) := by rw [w64, wrap64 (by omega) (by omega)]; rfl
  rw [hw] at h69
  have hcut := cutN we f (f + c) (by omega) (by omega)
  rw [Nat.add_sub_cancel_left] at hcut
  have hcut2 := cutN we (f - 1) (min l.length (f + 1)) (by omega) (by omega)
  have hz0 := fun es' he' hl' => g92 (fun x : Sd => D.str x.t) (fun x => D.int .i64 x.sp) ((l.drop f).take c) es' he' hl' 143 [] [.ro [.int .i64 qb, .int .i64 qm, .int .i64 f, .int .i64 c, qp] 0] (fun x => decide (x.sp = qb)) (fun x hx => g143 x.t x.sp qb qm f c qp)
  have hz1 := fun es' he' hl' => g120 (fun x : Sd => D.str x.t) (fun x => D.int .i64 x.sp) ((l.drop (f - 1)).take (min l.length (f + 1) - (f - 1))) es' he' hl' 143 [] [.ro [.int .i64 qb, .int .i64 qm, .int .i64 f, .int .i64 c, qp] 0] (fun x => decide (x.sp = qb)) (fun x hx => g143 x.t x.sp qb qm f c qp)
  have h92 := hz0 ((we.drop f).take c) (by rw [he, List.map_take, List.map_drop]) (by simp [maxLen]; omega)
  have h120 := hz1 ((we.drop (f - 1)).take (min l.length (f + 1) - (f - 1))) (by rw [he, List.map_take, List.map_drop]) (by simp [maxLen]; omega)
  clear hz0 hz1
  rw [ownS]
  generalize (we.drop f).take c = r1 at hcut h92
  generalize (we.drop (f - 1)).take (min l.length (f + 1) - (f - 1)) = r2 at hcut2 h120
  generalize ((l.drop f).take c).all (fun x => decide (x.sp = qb)) = p1 at h92 ⊢
  generalize ((l.drop (f - 1)).take (min l.length (f + 1) - (f - 1))).any (fun x => decide (x.sp = qb)) = p2 at h120 ⊢
  refine start c116 rfl ?_
  intro r' hr G hG hGW lt le eq add sub mul quo rem conv strEq strLt strCat strLen strAt strCut bytes ofBytes len nth cut fits app rep setEl look upd ne strNe H
  rw [← H.cut] at hcut hcut2
  by_cases hc : 0 < c
  · have c1 : lt 0 (c : Int) = true := by rw [H.gtK (c := 0) _ 0 rfl, decide_eq_true hc]
    rw [if_pos hc] at hr
    generalize ((f + c : Nat) : Int) = fc at *
    generalize (f : Int) = ff at *
    generalize (c : Int) = cc at *
    (try cbv)
    repeat' (first | (rw [c1]; (try cbv)) | ((refine callI (hG _ _ _ h69) ?_; intro b hb; subst hb); (try cbv)) | (rw [hcut]; (try cbv)) | ((refine callB (hG _ _ _ h92) ?_; intro b hb; subst hb); (try cbv)) | fail)
    rw [hr]
  · have c1 : lt 0 (c : Int) = false := by rw [H.gtK (c := 0) _ 0 rfl, decide_eq_false hc]
    rw [if_neg hc] at hr
    have hsub : sub .i64 (Int.ofNat f) 1 = (f : Int) - 1 := by
      show sub .i64 (f : Int) 1 = _
      rw [H.sub, wrap64 (by omega) (by omega)]
    have hadd : add .i64 (Int.ofNat f) 1 = (f : Int) + 1 := by
      show add .i64 (f : Int) 1 = _
      rw [H.add, wrap64 (by omega) (by omega)]
    have hX : ∀ a b : Int, a = ((f - 1 : Nat) : Int) → b = ((min l.length (f + 1) : Nat) : Int) → cut we (some a) (some b) = some r2 := by
      rintro _ _ rfl rfl
      exact hcut2
    clear h69 h92 hcut hcut2
    generalize (c : Int) = cc at *
    cases m1 : lt 0 (sub .i64 (Int.ofNat f) 1) <;> cases m2 : lt (add .i64 (Int.ofNat f) 1) (len we)
    all_goals
      have k1 := m1
      have k2 := m2
      rw [hsub, H.lt] at k1
      rw [hadd, H.lt, H.len, hlen] at k2
      simp only [decide_eq_true_eq, decide_eq_false_iff_not] at k1 k2
    · have hY := hX 0 (len we) (by omega) (by rw [H.len, hlen]; omega)
      (try cbv)
      repeat' (first | (rw [c1]; (try cbv)) | (rw [m1]; (try cbv)) | (rw [m2]; (try cbv)) | (rw [hY]; (try cbv)) | ((refine callB (hG _ _ _ h120) ?_; intro b hb; subst hb); (try cbv)) | fail)
      rw [hr]
    · have hY := hX 0 (add .i64 (Int.ofNat f) 1) (by omega) (by rw [hadd]; omega)
      (try cbv)
      repeat' (first | (rw [c1]; (try cbv)) | (rw [m1]; (try cbv)) | (rw [m2]; (try cbv)) | (rw [hY]; (try cbv)) | ((refine callB (hG _ _ _ h120) ?_; intro b hb; subst hb); (try cbv)) | fail)
      rw [hr]
    · have hY := hX (sub .i64 (Int.ofNat f) 1) (len we) (by rw [hsub]; omega) (by rw [H.len, hlen]; omega)
      (try cbv)
      repeat' (first | (rw [c1]; (try cbv)) | (rw [m1]; (try cbv)) | (rw [m2]; (try cbv)) | (rw [hY]; (try cbv)) | ((refine callB (hG _ _ _ h120) ?_; intro b hb; subst hb); (try cbv)) | fail)
      rw [hr]
    · have hY := hX (sub .i64 (Int.ofNat f) 1) (add .i64 (Int.ofNat f) 1) (by rw [hsub]; omega) (by rw [hadd]; omega)
      (try cbv)
      repeat' (first | (rw [c1]; (try cbv)) | (rw [m1]; (try cbv)) | (rw [m2]; (try cbv)) | (rw [hY]; (try cbv)) | ((refine callB (hG _ _ _ h120) ?_; intro b hb; subst hb); (try cbv)) | fail)
      rw [hr]
theorem g117 (we se ae wh er : List (List D)) (o w : Int) (E : List (D × List D)) (qb qm qf qc : Int) (qp : D) :
    GG 117 [(false, [.ro [.row 2 we, .int .i64 o, .int .i64 w, .rmap 2 E, .row 3 se, .row 5 ae, .row 1 wh, .row 1 er] 0]), (true, [.int .i64 qb, .int .i64 qm, .int .i64 qf, .int .i64 qc, qp])] (.one (false, [.bool (inR qm o (w64 (o + w)))])) := by
  refine start c117 rfl ?_
  intro r' hr G hG hGW lt le eq add sub mul quo rem conv strEq strLt strCat strLen strAt strCut bytes ofBytes len nth cut fits app rep setEl look upd ne strNe H
  have e1 : w64 (o + w) = add .i64 o w := by rw [H.add, w64]
  rw [e1] at hr
  (try cbv)
  repeat' (first | (refine callB (hG _ _ _ (g84 _ _ _)) ?_; intro b84 hb84; (try cbv)) | fail)
  rw [hr, hb84]
def keptS (L : List (ByteArray × Mrk)) (sw : List Swp) (l : List Sd) (f c : Nat) (p : List ByteArray) : Bool := eqGo (mayB sw) (senseM L (oldsS l f (f + c))) (senseM L p)
theorem oldsS_len (l : List Sd) (f t : Nat) : (oldsS l f t).length ≤ l.length := by simp [oldsS]; omega
theorem oldsS_mem {l : List Sd} {f t : Nat} {s : ByteArray} (h : s ∈ oldsS l f t) : ∃ x ∈ l, x.t = s := by
  simp only [oldsS, List.mem_map] at h
  obtain ⟨x, h1, h2⟩ := h
  exact ⟨x, List.mem_of_mem_drop (List.mem_of_mem_take h1), h2⟩
theorem g118 (l : List Sd) (we se ae wh er : List (List D)) (he : sdE l we) (hl : l.length ≤ 100000) (hls : ∀ x ∈ l, x.t.size ≤ 281474976710656) (o w : Int) (L : List (ByteArray × Mrk)) (E : List (D × List D)) (hE : E = eM L) (sw : List Swp) (hse : swE sw se) (hsl : sw.length ≤ maxLen)
    (qb qm : Int) (f c : Nat) (hfc : f + c ≤ l.length) (p : List ByteArray) (pe : List (List D)) (hp : txE p pe) (hpl : p.length ≤ 100000) (hps : ∀ s ∈ p, s.size ≤ 281474976710656) :
    GG 118 [(false, [.ro [.row 2 we, .int .i64 o, .int .i64 w, .rmap 2 E, .row 3 se, .row 5 ae, .row 1 wh, .row 1 er] 0]), (true, [.int .i64 qb, .int .i64 qm, .int .i64 f, .int .i64 c, .row 1 pe])] (.one (false, [.bool (keptS L sw l f c p)])) := by
  have h69 := g69 qb qm f c (.row 1 pe)
  have hw : w64 ((f : Int) + c) = ((f + c : Nat) : Int) := by rw [w64, wrap64 (by omega) (by omega)]; rfl
  rw [hw] at h69
  have h68 := g68 l we he hl o w f (f + c) (by omega) hfc
  have hol := oldsS_len l f (f + c)
  have h54 := g54 L E hE (oldsS l f (f + c)) _ rfl (by omega) (fun s hs => by obtain ⟨x, hx, rfl⟩ := oldsS_mem hs; exact hls x hx)
  have h54' := g54 L E hE p pe hp hpl hps
  have h144 := g144 (.rmap 2 E) sw se hse hsl (senseM L (oldsS l f (f + c))) (senseM L p) _ _ rfl rfl (by have := List.length_filterMap_le (markS L) (oldsS l f (f + c)); simp only [senseM, maxLen] at *; omega) (by have := List.length_filterMap_le (markS L) p; simp only [senseM, maxLen] at *; omega)
  rw [keptS]
  generalize eqGo (mayB sw) (senseM L (oldsS l f (f + c))) (senseM L p) = res at h144 ⊢
  generalize (senseM L (oldsS l f (f + c))).map (fun x => [D.int .u8 x.k, D.int .i64 x.v]) = S1 at h54 h144
  generalize (senseM L p).map (fun x => [D.int .u8 x.k, D.int .i64 x.v]) = S2 at h54' h144
  generalize (oldsS l f (f + c)).map (fun s => [D.str s]) = T1 at h54 h68
  clear he hl hls hE hse hsl hfc hp hpl hps hw hol
  generalize ((f + c : Nat) : Int) = fc at *
  generalize (f : Int) = ff at *
  generalize (c : Int) = cc at *
  refine start c118 rfl ?_
  intro r' hr G hG hGW lt le eq add sub mul quo rem conv strEq strLt strCat strLen strAt strCut bytes ofBytes len nth cut fits app rep setEl look upd ne strNe H
  (try cbv)
  repeat' (first | ((refine callI (hG _ _ _ h69) ?_; intro b hb; subst hb); (try cbv)) | ((refine callB (hG _ _ _ h144) ?_; intro b hb; subst hb); (try cbv)) | ((refine call0 (hG _ _ _ h68) ?_); (try cbv)) | ((refine call0 (hG _ _ _ h54) ?_); (try cbv)) | ((refine call0 (hG _ _ _ h54') ?_); (try cbv)) | fail)
  rw [hr]
end Go.Vi
namespace Go.Vi
open Go.Proofs
set_option maxRecDepth 100000
set_option linter.unusedVariables false
set_option linter.unusedSimpArgs false
def freeS (acc : List Rq) (f c : Int) : Bool := !(acc.any fun o => meetS f c o.frm o.cut)
theorem g119 (we se ae wh er : List (List D)) (acc : List Rq) (ha : rqE acc ae) (hal : acc.length ≤ maxLen) (o w : Int) (E : List (D × List D)) (qb qm qf qc : Int) (qp : D) :
    GG 119 [(false, [.ro [.row 2 we, .int .i64 o, .int .i64 w, .rmap 2 E, .row 3 se, .row 5 ae, .row 1 wh, .row 1 er] 0]), (true, [.int .i64 qb, .int .i64 qm, .int .i64 qf, .int .i64 qc, qp])] (.one (false, [.bool (freeS acc qf qc)])) := by
  have h145 := g145 (fun x : Rq => D.int .i64 x.by') (fun x => D.int .i64 x.minute) (fun x => D.int .i64 x.frm) (fun x => D.int .i64 x.cut) (fun x => putD x.put) acc ae ha hal 146 [(true, [.int .i64 qb, .int .i64 qm, .int .i64 qf, .int .i64 qc, qp])] [] (fun x => meetS qf qc x.frm x.cut) (fun x hx => g146 qb qm qf qc qp x.by' x.minute x.frm x.cut _)
  rw [freeS]
  generalize acc.any (fun o => meetS qf qc o.frm o.cut) = p at h145 ⊢
  refine start c119 rfl ?_
  intro r' hr G hG hGW lt le eq add sub mul quo rem conv strEq strLt strCat strLen strAt strCut bytes ofBytes len nth cut fits app rep setEl look upd ne strNe H
  (try cbv)
  repeat' (first | ((refine callB (hG _ _ _ h145) ?_; intro b hb; subst hb); (try cbv)) | fail)
  rw [hr]
  cases b <;> rfl
def firstBad : List (Bool × Int) → Int
  | [] => 0
  | (b, e) :: r => bif b then firstBad r else e
theorem g90x (we se ae wh er : List (List D)) (o w : Int) (E : List (D × List D)) (qb qm qf qc : Int) (qp : D) (d : D) (hd : d = .ro [.row 2 we, .int .i64 o, .int .i64 w, .rmap 2 E, .row 3 se, .row 5 ae, .row 1 wh, .row 1 er] 0) (b1 b2 b3 b4 b5 b6 : Bool)
    (h1 : GG 114 [(false, [d]), (true, [.int .i64 qb, .int .i64 qm, .int .i64 qf, .int .i64 qc, qp])] (.one (false, [.bool b1])))
    (h2 : GG 115 [(false, [d]), (true, [.int .i64 qb, .int .i64 qm, .int .i64 qf, .int .i64 qc, qp])] (.one (false, [.bool b2])))
    (h3 : b1 = true → GG 116 [(false, [d]), (true, [.int .i64 qb, .int .i64 qm, .int .i64 qf, .int .i64 qc, qp])] (.one (false, [.bool b3])))
    (h4 : GG 117 [(false, [d]), (true, [.int .i64 qb, .int .i64 qm, .int .i64 qf, .int .i64 qc, qp])] (.one (false, [.bool b4])))
    (h5 : b1 = true → b2 = true → GG 118 [(false, [d]), (true, [.int .i64 qb, .int .i64 qm, .int .i64 qf, .int .i64 qc, qp])] (.one (false, [.bool b5])))
    (h6 : GG 119 [(false, [d]), (true, [.int .i64 qb, .int .i64 qm, .int .i64 qf, .int .i64 qc, qp])] (.one (false, [.bool b6]))) :
    GG 90 [(false, [d]), (true, [.int .i64 qb, .int .i64 qm, .int .i64 qf, .int .i64 qc, qp])] (.one (false, [.int .i64 (firstBad [(b1, 2), (b2, 1), (b3, 5), (b4, 11), (b5, 9), (b6, 6)])])) := by
  refine start c90 rfl ?_
  intro r' hr G hG hGW lt le eq add sub mul quo rem conv strEq strLt strCat strLen strAt strCut bytes ofBytes len nth cut fits app rep setEl look upd ne strNe H
  (try cbv)
  repeat' (first | fail)
  obtain ⟨Q, hQ⟩ : ∃ Q, Q = [[D.fn 114 [(false, [d])] [], D.int .i64 2], [D.fn 115 [(false, [d])] [], D.int .i64 1], [D.fn 116 [(false, [d])] [], D.int .i64 5], [D.fn 117 [(false, [d])] [], D.int .i64 11], [D.fn 118 [(false, [d])] [], D.int .i64 9], [D.fn 119 [(false, [d])] [], D.int .i64 6]] := ⟨_, rfl⟩
  rw [← hQ]
  refine loopK ?_
  intro K hK
  obtain ⟨N, hN⟩ : ∃ N, N = 6 := ⟨_, rfl⟩
  obtain ⟨P, hP⟩ : ∃ P : Nat → Prop, ∀ k, P k = (r' = .one (false, [.int .i64 (firstBad ([(b1, 2), (b2, 1), (b3, 5), (b4, 11), (b5, 9), (b6, 6)].drop k))]) ∧ (1 ≤ k → b1 = true) ∧ (2 ≤ k → b2 = true)) := ⟨_, fun _ => rfl⟩
  refine loopU N (fun k => [(3, .v false [.loc 0 0]), (5, .v false [.d (.int .i64 0)]), (26, .v false [.d (.row 2 Q)]), (27, .v false [.d (.int .i64 (len Q))]), (28, .v false [.d (.int .i64 (Int.ofNat k))])]) [(0, .blk [.d (.int .i64 qb), .d (.int .i64 qm), .d (.int .i64 qf), .d (.int .i64 qc), .d qp])] P ⟨rfl, rfl⟩ ?_ ?_
  · rw [hP]; exact ⟨hr, fun h => absurd h (by decide), fun h => absurd h (by decide)⟩
  intro k hk hp
  rw [hN] at hk
  rw [hP] at hp
  obtain ⟨hr, hpre⟩ := hp
  obtain ⟨ik, hik⟩ : ∃ i, i = Int.ofNat k := ⟨_, rfl⟩
  rw [← hik]
  obtain rfl | rfl | rfl | rfl | rfl | rfl | rfl : k = 0 ∨ k = 1 ∨ k = 2 ∨ k = 3 ∨ k = 4 ∨ k = 5 ∨ k = 6 := by omega
  · have nk : nth Q ik = some [.fn 114 [(false, [d])] [], .int .i64 2] := by rw [hik, H.nth, hQ]; rfl
    have lk : lt ik (len Q) = true := by rw [hik, H.lt, H.len, hQ]; rfl
    have ak : add .i64 ik 1 = Int.ofNat 1 := by rw [hik, H.add, wrap64 (by decide) (by decide)]; rfl
    have hc := h1
    simp only [List.drop, firstBad] at hr
    cases b1
    · (try cbv)
      repeat' (first | (rw [lk]; (try cbv)) | (rw [nk]; (try cbv)) | ((refine callB (hG _ _ _ hc) ?_; intro b hb; subst hb); (try cbv)) | (rw [hK]; (try cbv)) | fail)
      rw [hr]; rfl
    · (try cbv)
      repeat' (first | (rw [lk]; (try cbv)) | (rw [nk]; (try cbv)) | ((refine callB (hG _ _ _ hc) ?_; intro b hb; subst hb); (try cbv)) | fail)
      exact ⟨by rw [hN]; exact Nat.le_of_ble_eq_true rfl, by rw [hP]; exact ⟨hr, fun _ => rfl, fun h => absurd h (by decide)⟩, by rw [ak], trivial⟩
  · have nk : nth Q ik = some [.fn 115 [(false, [d])] [], .int .i64 1] := by rw [hik, H.nth, hQ]; rfl
    have lk : lt ik (len Q) = true := by rw [hik, H.lt, H.len, hQ]; rfl
    have ak : add .i64 ik 1 = Int.ofNat 2 := by rw [hik, H.add, wrap64 (by decide) (by decide)]; rfl
    have hc := h2
    simp only [List.drop, firstBad] at hr
    cases b2
    · (try cbv)
      repeat' (first | (rw [lk]; (try cbv)) | (rw [nk]; (try cbv)) | ((refine callB (hG _ _ _ hc) ?_; intro b hb; subst hb); (try cbv)) | (rw [hK]; (try cbv)) | fail)
      rw [hr]; rfl
    · (try cbv)
      repeat' (first | (rw [lk]; (try cbv)) | (rw [nk]; (try cbv)) | ((refine callB (hG _ _ _ hc) ?_; intro b hb; subst hb); (try cbv)) | fail)
      exact ⟨by rw [hN]; exact Nat.le_of_ble_eq_true rfl, by rw [hP]; exact ⟨hr, fun _ => hpre.1 (by omega), fun _ => rfl⟩, by rw [ak], trivial⟩
  · have nk : nth Q ik = some [.fn 116 [(false, [d])] [], .int .i64 5] := by rw [hik, H.nth, hQ]; rfl
    have lk : lt ik (len Q) = true := by rw [hik, H.lt, H.len, hQ]; rfl
    have ak : add .i64 ik 1 = Int.ofNat 3 := by rw [hik, H.add, wrap64 (by decide) (by decide)]; rfl
    have p1 : b1 = true := hpre.1 (by omega)
    have hc := (h3 p1)
    simp only [List.drop, firstBad] at hr
    cases b3
    · (try cbv)
      repeat' (first | (rw [lk]; (try cbv)) | (rw [nk]; (try cbv)) | ((refine callB (hG _ _ _ hc) ?_; intro b hb; subst hb); (try cbv)) | (rw [hK]; (try cbv)) | fail)
      rw [hr]; rfl
    · (try cbv)
      repeat' (first | (rw [lk]; (try cbv)) | (rw [nk]; (try cbv)) | ((refine callB (hG _ _ _ hc) ?_; intro b hb; subst hb); (try cbv)) | fail)
      exact ⟨by rw [hN]; exact Nat.le_of_ble_eq_true rfl, by rw [hP]; exact ⟨hr, fun _ => hpre.1 (by omega), fun _ => hpre.2 (by omega)⟩, by rw [ak], trivial⟩
  · have nk : nth Q ik = some [.fn 117 [(false, [d])] [], .int .i64 11] := by rw [hik, H.nth, hQ]; rfl
    have lk : lt ik (len Q) = true := by rw [hik, H.lt, H.len, hQ]; rfl
    have ak : add .i64 ik 1 = Int.ofNat 4 := by rw [hik, H.add, wrap64 (by decide) (by decide)]; rfl
    have hc := h4
    simp only [List.drop, firstBad] at hr
    cases b4
    · (try cbv)
      repeat' (first | (rw [lk]; (try cbv)) | (rw [nk]; (try cbv)) | ((refine callB (hG _ _ _ hc) ?_; intro b hb; subst hb); (try cbv)) | (rw [hK]; (try cbv)) | fail)
      rw [hr]; rfl
    · (try cbv)
      repeat' (first | (rw [lk]; (try cbv)) | (rw [nk]; (try cbv)) | ((refine callB (hG _ _ _ hc) ?_; intro b hb; subst hb); (try cbv)) | fail)
      exact ⟨by rw [hN]; exact Nat.le_of_ble_eq_true rfl, by rw [hP]; exact ⟨hr, fun _ => hpre.1 (by omega), fun _ => hpre.2 (by omega)⟩, by rw [ak], trivial⟩
  · have nk : nth Q ik = some [.fn 118 [(false, [d])] [], .int .i64 9] := by rw [hik, H.nth, hQ]; rfl
    have lk : lt ik (len Q) = true := by rw [hik, H.lt, H.len, hQ]; rfl
    have ak : add .i64 ik 1 = Int.ofNat 5 := by rw [hik, H.add, wrap64 (by decide) (by decide)]; rfl
    have p1 : b1 = true := hpre.1 (by omega)
    have p2 : b2 = true := hpre.2 (by omega)
    have hc := (h5 p1 p2)
    simp only [List.drop, firstBad] at hr
    cases b5
    · (try cbv)
      repeat' (first | (rw [lk]; (try cbv)) | (rw [nk]; (try cbv)) | ((refine callB (hG _ _ _ hc) ?_; intro b hb; subst hb); (try cbv)) | (rw [hK]; (try cbv)) | fail)
      rw [hr]; rfl
    · (try cbv)
      repeat' (first | (rw [lk]; (try cbv)) | (rw [nk]; (try cbv)) | ((refine callB (hG _ _ _ hc) ?_; intro b hb; subst hb); (try cbv)) | fail)
      exact ⟨by rw [hN]; exact Nat.le_of_ble_eq_true rfl, by rw [hP]; exact ⟨hr, fun _ => hpre.1 (by omega), fun _ => hpre.2 (by omega)⟩, by rw [ak], trivial⟩
  · have nk : nth Q ik = some [.fn 119 [(false, [d])] [], .int .i64 6] := by rw [hik, H.nth, hQ]; rfl
    have lk : lt ik (len Q) = true := by rw [hik, H.lt, H.len, hQ]; rfl
    have ak : add .i64 ik 1 = Int.ofNat 6 := by rw [hik, H.add, wrap64 (by decide) (by decide)]; rfl
    have hc := h6
    simp only [List.drop, firstBad] at hr
    cases b6
    · (try cbv)
      repeat' (first | (rw [lk]; (try cbv)) | (rw [nk]; (try cbv)) | ((refine callB (hG _ _ _ hc) ?_; intro b hb; subst hb); (try cbv)) | (rw [hK]; (try cbv)) | fail)
      rw [hr]; rfl
    · (try cbv)
      repeat' (first | (rw [lk]; (try cbv)) | (rw [nk]; (try cbv)) | ((refine callB (hG _ _ _ hc) ?_; intro b hb; subst hb); (try cbv)) | fail)
      exact ⟨by rw [hN]; exact Nat.le_of_ble_eq_true rfl, by rw [hP]; exact ⟨hr, fun _ => hpre.1 (by omega), fun _ => hpre.2 (by omega)⟩, by rw [ak], trivial⟩
  · have lk : lt ik (len Q) = false := by rw [hik, H.lt, H.len, hQ]; rfl
    simp only [List.drop, firstBad] at hr
    (try cbv)
    repeat' (first | (rw [lk]; (try cbv)) | (rw [hK]; (try cbv)) | fail)
    rw [hr]
end Go.Vi
