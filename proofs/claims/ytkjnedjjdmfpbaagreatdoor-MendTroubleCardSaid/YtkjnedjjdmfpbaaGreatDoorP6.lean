/-
  Contract of decide.
-/
import Derived.Test.YtkjnedjjdmfpbaaGreatDoorP5
import Derived.Test.YtkjnedjjdmfpbaaGreatDoorP4
set_option linter.unusedVariables false
set_option linter.unusedSimpArgs false
set_option linter.unusedSectionVars false
namespace Go.Vi
open Go.Proofs
set_option maxRecDepth 100000
set_option linter.unusedVariables false
set_option linter.unusedSimpArgs false
/-- Which of two requests comes first. -/
def cmpQ (a b : Rq) : Int := orS [cmpS a.minute b.minute, cmpS a.by' b.by']
theorem g88 (l : List Rq) (es : List (List D)) (he : rqE l es) (i k : Nat) (a b : Rq) (ha : l[i]? = some a) (hb : l[k]? = some b) : GG 88 [(false, [.int .i64 i]), (false, [.int .i64 k]), (false, [.ro [.row 5 es] 0])] (.one (false, [.int .i64 (cmpQ a b)])) := by
  obtain ⟨ab, am, af, ac, ap⟩ := a
  obtain ⟨bb, bm, bf, bc, bp⟩ := b
  have h1 := g89 am bm
  have h2 := g89 ab bb
  have h3 := g66 [cmpS am bm, cmpS ab bb] [[.int .i64 (cmpS am bm)], [.int .i64 (cmpS ab bb)]] rfl (by simp [maxLen])
  rw [cmpQ]
  dsimp only
  generalize orS [cmpS am bm, cmpS ab bb] = o at h3 ⊢
  generalize cmpS am bm = c1 at h1 h3
  generalize cmpS ab bb = c2 at h2 h3
  refine start c88 rfl ?_
  intro r' hr G hG hGW lt le eq add sub mul quo rem conv strEq strLt strCat strLen strAt strCut bytes ofBytes len nth cut fits app rep setEl look upd ne strNe H
  have k1 : nth es (i : Int) = some (rqD ⟨ab, am, af, ac, ap⟩) := by rw [H.nth, he]; simp [ha]
  have k2 : nth es (k : Int) = some (rqD ⟨bb, bm, bf, bc, bp⟩) := by rw [H.nth, he]; simp [hb]
  simp only [rqD, putD] at k1 k2
  generalize (i : Int) = ii at *
  generalize (k : Int) = kk at *
  generalize (ap.map fun s => [D.str s]) = apd at *
  generalize (bp.map fun s => [D.str s]) = bpd at *
  (try cbv)
  repeat' (first | (rw [k1]; (try cbv)) | (rw [k2]; (try cbv)) | ((refine callI (hG _ _ _ h1) ?_; intro b hb; subst hb); (try cbv)) | ((refine callI (hG _ _ _ h2) ?_; intro b hb; subst hb); (try cbv)) | ((refine callI (hG _ _ _ h3) ?_; intro b hb; subst hb); (try cbv)) | fail)
  rw [hr]
def refS (L : List (ByteArray × Mrk)) (sw : List Swp) (l : List Sd) (o w : Int) (acc : List Rq) (q : Rq) : Int :=
  firstBad [(insideS l.length q.frm q.cut, 2), (properS q.by' q.cut q.put, 1), (ownS l q.frm.toNat q.cut.toNat q.by', 5), (inR q.minute o (w64 (o + w)), 11), (keptS L sw l q.frm.toNat q.cut.toNat q.put, 9), (freeS acc q.frm q.cut, 6)]
theorem inside_nat {n : Nat} {f c : Int} (hn : n ≤ 100000) (hc : c < 9223372036854775808) (h : insideS n f c = true) : ∃ a b : Nat, f = a ∧ c = b ∧ a + b ≤ n := by
  simp only [insideS, Bool.and_eq_true, decide_eq_true_eq] at h
  obtain ⟨h1, h2, h3⟩ := h
  refine ⟨f.toNat, c.toNat, by omega, by omega, ?_⟩
  rw [w64, wrap64 (by omega) (by omega)] at h3
  omega
/-- What a decision is made with. -/
structure DecIn (L : List (ByteArray × Mrk)) (E : List (D × List D)) (sw : List Swp) (se : List (List D)) (l : List Sd) (we : List (List D)) : Prop where
  hE : E = eM L
  hse : swE sw se
  hsl : sw.length ≤ maxLen
  he : sdE l we
  hl : l.length ≤ 100000
  hls : ∀ x ∈ l, x.t.size ≤ 281474976710656
structure RqIn (q : Rq) : Prop where
  hc : q.cut < 9223372036854775808
  hp : Short q.put
theorem g90 {L : List (ByteArray × Mrk)} {E : List (D × List D)} {sw : List Swp} {se : List (List D)} {l : List Sd} {we : List (List D)} (hx : DecIn L E sw se l we) (o w : Int) (acc : List Rq) (ae wh er : List (List D)) (ha : rqE acc ae) (hal : acc.length ≤ maxLen) (q : Rq) (hq : RqIn q) :
    GG 90 [(false, [.ro [.row 2 we, .int .i64 o, .int .i64 w, .rmap 2 E, .row 3 se, .row 5 ae, .row 1 wh, .row 1 er] 0]), (true, rqD q)] (.one (false, [.int .i64 (refS L sw l o w acc q)])) := by
  obtain ⟨qb, qm, qf, qc, qp⟩ := q
  obtain ⟨hc, hp⟩ := hq
  obtain ⟨hE, hse, hsl, he, hl, hls⟩ := hx
  have hlen := map_len he
  refine g90x we se ae wh er o w E qb qm qf qc (putD qp) _ rfl _ _ _ _ _ _ (g114 we se ae wh er o w E l.length hlen qb qm qf qc (putD qp)) (g115 _ qb qm qf qc qp _ rfl hp) ?_ (g117 we se ae wh er o w E qb qm qf qc (putD qp)) ?_ (g119 we se ae wh er acc ha hal o w E qb qm qf qc (putD qp))
  · intro h1
    obtain ⟨f, c, rfl, rfl, hfc⟩ := inside_nat hl hc h1
    exact g116 l we se ae wh er he hl o w E qb qm f c hfc (putD qp)
  · intro h1 h2
    obtain ⟨f, c, rfl, rfl, hfc⟩ := inside_nat hl hc h1
    simp only [properS, Bool.and_eq_true, decide_eq_true_eq, List.all_eq_true] at h2
    exact g118 l we se ae wh er he hl hls o w L E hE sw hse hsl qb qm f c hfc qp _ rfl (by omega) (fun s hs => by have := textOk_size (h2.2.2.1 s hs); omega)
/-! ### decisions -/
def qltS (l : List Rq) (i k : Nat) : Bool := match l[i]?, l[k]? with
  | some a, some b => decide (cmpQ a b < 0)
  | _, _ => false
structure Dec where
  acc : List Rq
  which : List Nat
  errs : List Int
def stepD (ref : List Rq → Rq → Int) (l : List Rq) (st : Dec) (i : Nat) : Dec := match l[i]? with
  | some q => if ref st.acc q = 0 then ⟨st.acc ++ [q], st.which ++ [i], st.errs.set i 0⟩ else ⟨st.acc, st.which, st.errs.set i (ref st.acc q)⟩
  | none => st
def decS (ref : List Rq → Rq → Int) (l : List Rq) : Dec := (ordS (qltS l) l.length).foldl (stepD ref l) ⟨[], [], List.replicate l.length 0⟩
theorem foldD_len (ref : List Rq → Rq → Int) (l : List Rq) : ∀ (t : List Nat) (s : Dec), (t.foldl (stepD ref l) s).acc.length ≤ s.acc.length + t.length ∧ (t.foldl (stepD ref l) s).which.length ≤ s.which.length + t.length ∧ (t.foldl (stepD ref l) s).errs.length = s.errs.length
  | [], s => ⟨Nat.le_refl _, Nat.le_refl _, rfl⟩
  | i :: t, s => by
    have h := foldD_len ref l t (stepD ref l s i)
    have h2 : (stepD ref l s i).acc.length ≤ s.acc.length + 1 ∧ (stepD ref l s i).which.length ≤ s.which.length + 1 ∧ (stepD ref l s i).errs.length = s.errs.length := by
      unfold stepD
      split
      · split <;> simp
      · simp
    simp only [List.foldl_cons, List.length_cons]
    omega
theorem setI (M : List Int) (j : Nat) (y : Int) (hj : j < M.length) : prims.setEl (M.map fun e => [D.int .i64 e]) (j : Int) 0 (.int .i64 y) = some ((M.set j y).map fun e => [D.int .i64 e]) := by
  have h0 : (0 : Int) ≤ (j : Int) := Int.natCast_nonneg _
  simp only [prims]
  rw [if_pos h0, Int.toNat_natCast, List.getElem?_map, List.getElem?_eq_getElem hj]
  simp [List.map_set]
set_option maxHeartbeats 4000000 in
theorem g59a (e1 e2 e3 se we qe : List (List D)) (o w : Int) (E : List (D × List D)) (l : List Rq) (hq : rqE l qe) (hl : l.length ≤ 20) (ref : List Rq → Rq → Int)
    (h51 : GG 51 [(true, [.row 2 e1, .row 1 e2, .row 1 e3]), (false, [.row 3 se])] (.many [(true, [.rmap 2 E, .row 3 se]), (false, [.int .i64 0])]))
    (h61 : GG 61 [(true, [.row 2 we, .int .i64 o, .int .i64 w])] (.one (false, [.int .i64 0])))
    (h90 : ∀ acc ae wh er q, rqE acc ae → acc.length ≤ 20 → q ∈ l → GG 90 [(false, [.ro [.row 2 we, .int .i64 o, .int .i64 w, .rmap 2 E, .row 3 se, .row 5 ae, .row 1 wh, .row 1 er] 0]), (true, rqD q)] (.one (false, [.int .i64 (ref acc q)]))) :
    GG 59 [(true, [.row 2 e1, .row 1 e2, .row 1 e3]), (false, [.row 3 se]), (true, [.row 2 we, .int .i64 o, .int .i64 w]), (false, [.row 5 qe])]
      (.many [(false, [.ro [.row 2 we, .int .i64 o, .int .i64 w, .rmap 2 E, .row 3 se, .row 5 ((decS ref l).acc.map rqD), .row 1 ((decS ref l).which.map fun i : Nat => [.int .i64 (Int.ofNat i)]), .row 1 ((decS ref l).errs.map fun e => [.int .i64 e])] 0]), (false, [.int .i64 0])]) := by
  have hlen := map_len hq
  have h88 : ∀ (i k : Nat) (a b : Rq), l[i]? = some a → l[k]? = some b → GG 88 [(false, [.int .i64 i]), (false, [.int .i64 k]), (false, [.ro [.row 5 qe] 0])] (.one (false, [.int .i64 (cmpQ a b)])) := fun i k a b ha hb => g88 l qe hq i k a b ha hb
  refine start c59 rfl ?_
  intro r' hr G hG hGW lt le eq add sub mul quo rem conv strEq strLt strCat strLen strAt strCut bytes ofBytes len nth cut fits app rep setEl look upd ne strNe H
  have n0 : ne 0 0 = false := by rw [H.ne]; rfl
  have l20 : lt 20 (len qe) = false := by rw [H.len, hlen, H.gtK (c := 20) _ 20 rfl, decide_eq_false (by omega)]
  obtain ⟨Z, hZ⟩ : ∃ Z, Z = List.replicate l.length [D.int .i64 0] := ⟨_, rfl⟩
  have hrep : rep 8 (len qe) [.int .i64 0] = some Z := by
    rw [H.rep, H.len, hlen]
    simp only [prims]
    rw [if_pos (by omega), hZ]
    rfl
  (try cbv)
  repeat' (first | ((refine call0 (hG _ _ _ h51) ?_); (try cbv)) | (rw [n0]; (try cbv)) | ((refine callI (hG _ _ _ h61) ?_; intro b hb; subst hb); (try cbv)) | (rw [l20]; (try cbv)) | (rw [hrep]; (try cbv)) | fail)
  obtain ⟨A, hA⟩ : ∃ A : Nat → List (List D), ∀ k, A k = ((List.range k).map encN) := ⟨_, fun _ => rfl⟩
  refine loopK ?_
  intro K hK
  obtain ⟨N, hN⟩ : ∃ N, N = l.length := ⟨_, rfl⟩
  obtain ⟨P, hP⟩ : ∃ P : Nat → Prop, ∀ k, P k = (True) := ⟨_, fun _ => rfl⟩
  refine loopV N (fun k => [(7, .v false [.loc 2 0]), (13, .v false [.loc 8 0]), (14, .v false [.own 9]), (43, .v false [.d (.int .i64 (len qe))]), (44, .v false [.d (.int .i64 (Int.ofNat k))])]) (fun k => [(0, .blk [.d (.row 2 e1), .d (.row 1 e2), .d (.row 1 e3)]), (1, .blk [.d (.row 2 we), .d (.int .i64 o), .d (.int .i64 w)]), (2, .blk [.d (.row 5 qe)]), (3, .blk [.d (.rmap 2 E), .d (.row 3 se)]), (4, .arr 109 3 []), (5, .arr 31 1 Z), (6, .arr 63 5 []), (7, .arr 3 1 []), (8, .blk [.d (.row 2 we), .d (.int .i64 o), .d (.int .i64 w), .d (.rmap 2 E), .d (.row 3 se), .own 6, .own 7, .own 5]), (9, .arr 3 1 (A k))]) P ?_ ?_ ?_
  · rw [hA 0]; exact ⟨rfl, rfl⟩
  · rw [hP]; trivial
  intro k hk _
  rw [hN] at hk
  by_cases hkl : k < l.length
  · have h1 : lt (Int.ofNat k) (len qe) = true := by rw [H.lt, H.len, hlen]; simp [hkl]
    have h3 := H.inc hkl (Nat.le_trans hl (by decide))
    have h6 : ∀ x, fits 8 (app (A k) [x]) = true := fun x => H.fitsLe (by rw [H.app, hA]; simp; omega) (by decide)
    (try cbv)
    repeat' (first | (rw [h1]; (try cbv)) | (refine ⟨(h6 _), ?_⟩; (try cbv)) | (refine ⟨lenOne rfl, ?_⟩; (try cbv)) | fail)
    exact ⟨by rw [hN]; exact hkl, by rw [hP]; trivial, by rw [h3], by rw [H.app, hA, hA, List.range_succ, List.map_append]; rfl⟩
  have hkn : k = l.length := by omega
  have h1 : lt (Int.ofNat k) (len qe) = false := by rw [H.lt, H.len, hlen]; simp; omega
  obtain ⟨T, hT⟩ : ∃ T, T = A k := ⟨_, rfl⟩
  rw [← hT]
  have hT0 : T = (ordS (qltS l) 0 ++ (List.range l.length).drop 0).map encN := by rw [hT, hA, hkn]; rfl
  (try cbv)
  repeat' (first | (rw [h1]; (try cbv)) | fail)
  rw [hK]
  cbv
  intro tm1
  cbv
  intro tm2
  cbv
  generalize Int.ofNat k = ik
  generalize hn : l.length = n at *
  obtain ⟨Q, hQ⟩ : ∃ Q, Q = qltS l := ⟨_, rfl⟩
  rw [← hQ] at hT0
  have hn20 : n ≤ 20 := by omega
  have hlT : len T = (n : Int) := by rw [H.len, hT0]; simp [ordS]
  have ltT : ∀ (a : Nat) (b : Bool), decide (a < n) = b → lt (Int.ofNat a) (len T) = b := fun a b h => by
    rw [hlT, H.lt, ← h, Bool.eq_iff_iff, decide_eq_true_eq, decide_eq_true_eq]
    exact Int.ofNat_lt
  obtain ⟨SO, hSO⟩ : ∃ S, S = (ordS Q n).map encN := ⟨_, rfl⟩
  have hSl : SO.length = n := by rw [hSO, List.length_map, ordS_length]
  by_cases h20 : n = 20
  · -- twenty: the insertion is the first loop's
    have l20a : le 20 (len T) = true := by rw [hlT, H.le, decide_eq_true_iff]; omega
    have l40 : le 40 (len T) = false := by rw [hlT, H.le, decide_eq_false_iff_not]; omega
    have ltC : ∀ (a : Nat) (b : Bool), decide (a < n) = b → lt (Int.ofNat a) 20 = b := fun a b h => by
      have := ltT a b h
      rwa [hlT, h20] at this
    obtain ⟨fa, hfa0, hfa1⟩ : ∃ f : Nat → Int, f 0 = 0 ∧ f 1 = 20 := ⟨fun k => if k = 0 then 0 else 20, rfl, rfl⟩
    obtain ⟨fb, hfb0, hfb1⟩ : ∃ f : Nat → Int, f 0 = 20 ∧ f 1 = 40 := ⟨fun k => if k = 0 then 20 else 40, rfl, rfl⟩
    obtain ⟨TT, hTT0, hTT1⟩ : ∃ f : Nat → List (List D), f 0 = T ∧ f 1 = SO := ⟨fun k => if k = 0 then T else SO, rfl, rfl⟩
    have h40 : add .i64 20 20 = 40 := by rw [H.add, wrap64 (by decide) (by decide)]; rfl
    refine loopK ?_
    intro K2 hK2
    obtain ⟨N2, hN2⟩ : ∃ N, N = 1 := ⟨_, rfl⟩
    obtain ⟨P2, hP2⟩ : ∃ P : Nat → Prop, ∀ k, P k = (True) := ⟨_, fun _ => rfl⟩
    refine loopV N2 (fun k => [(0, .v false [.own 9]), (1, .v false [.d (.int .i64 (len T))]), (2, .v false [.fn 88 [] [.loc 2 0]]), (6, .v false [.d (.int .i64 20)]), (7, .v false [.d (.int .i64 (fa k))]), (8, .v false [.d (.int .i64 (fb k))])]) (fun k => [(0, .blk [.d (.row 2 e1), .d (.row 1 e2), .d (.row 1 e3)]), (1, .blk [.d (.row 2 we), .d (.int .i64 o), .d (.int .i64 w)]), (2, .blk [.d (.row 5 qe)]), (3, .blk [.d (.rmap 2 E), .d (.row 3 se)]), (4, .arr 109 3 []), (5, .arr 31 1 Z), (6, .arr 63 5 []), (7, .arr 3 1 []), (8, .blk [.d (.row 2 we), .d (.int .i64 o), .d (.int .i64 w), .d (.rmap 2 E), .d (.row 3 se), .own 6, .own 7, .own 5]), (9, .arr 3 1 (TT k)), (10, .saved tm1 [(7, .v false [.loc 2 0]), (13, .v false [.loc 8 0]), (14, .v false [.own 9]), (43, .v false [.d (.int .i64 (len qe))]), (44, .v false [.d (.int .i64 ik)]), (45, .v false [.d (.bool false)]), (52, .v false [.own 9]), (53, .v false [.fn 88 [] [.loc 2 0]])]), (11, .saved tm2 [(0, .v false [.own 9]), (1, .v false [.fn 88 [] [.loc 2 0]]), (4, .v false [.own 9]), (5, .v false [.own 9]), (6, .v false [.d (.int .i64 (len T))]), (7, .v false [.fn 88 [] [.loc 2 0]])])]) P2 ?_ ?_ ?_
    · rw [hfa0, hfb0, hTT0]; exact ⟨rfl, rfl⟩
    · rw [hP2]; trivial
    intro k2 hk2 _
    rw [hN2] at hk2
    obtain rfl | rfl : k2 = 0 ∨ k2 = 1 := by omega
    · rw [hfa0, hfb0, hTT0]
      (try cbv)
      repeat' (first | (rw [l20a]; (try cbv)) | fail)
      intro tm3
      cbv
      obtain ⟨U, hU⟩ : ∃ U : Nat → Int, ∀ k, U k = Int.ofNat (k + 1) := ⟨_, fun _ => rfl⟩
      have hU0 : add .i64 0 1 = U 0 := by rw [H.add, hU, wrap64 (by decide) (by decide)]; rfl
      obtain ⟨CC, hCC⟩ : ∃ C : Nat → List (List D), ∀ k, C k = (ordS Q (min (k + 1) n) ++ (List.range n).drop (min (k + 1) n)).map encN := ⟨_, fun _ => rfl⟩
      have hCC0 : CC 0 = T := by
        rw [hCC, hT0]
        rcases Nat.eq_zero_or_pos n with h0 | h0
        · rw [h0]; rfl
        · rw [Nat.min_eq_left (show 0 + 1 ≤ n by omega)]
          have := ordS_end Q n 0 0 rfl
          rw [← this, ordS_start Q n 0 h0]
      refine loopK ?_
      intro K3 hK3
      obtain ⟨N3, hN3⟩ : ∃ N, N = n := ⟨_, rfl⟩
      obtain ⟨P3, hP3⟩ : ∃ P : Nat → Prop, ∀ k, P k = (True) := ⟨_, fun _ => rfl⟩
      refine loopV N3 (fun k => [(0, .v false [.own 9]), (1, .v false [.d (.int .i64 0)]), (2, .v false [.d (.int .i64 20)]), (3, .v false [.fn 88 [] [.loc 2 0]]), (8, .v false [.d (.int .i64 (U k))])]) (fun k => [(0, .blk [.d (.row 2 e1), .d (.row 1 e2), .d (.row 1 e3)]), (1, .blk [.d (.row 2 we), .d (.int .i64 o), .d (.int .i64 w)]), (2, .blk [.d (.row 5 qe)]), (3, .blk [.d (.rmap 2 E), .d (.row 3 se)]), (4, .arr 109 3 []), (5, .arr 31 1 Z), (6, .arr 63 5 []), (7, .arr 3 1 []), (8, .blk [.d (.row 2 we), .d (.int .i64 o), .d (.int .i64 w), .d (.rmap 2 E), .d (.row 3 se), .own 6, .own 7, .own 5]), (9, .arr 3 1 (CC k)), (10, .saved tm1 [(7, .v false [.loc 2 0]), (13, .v false [.loc 8 0]), (14, .v false [.own 9]), (43, .v false [.d (.int .i64 (len qe))]), (44, .v false [.d (.int .i64 ik)]), (45, .v false [.d (.bool false)]), (52, .v false [.own 9]), (53, .v false [.fn 88 [] [.loc 2 0]])]), (11, .saved tm2 [(0, .v false [.own 9]), (1, .v false [.fn 88 [] [.loc 2 0]]), (4, .v false [.own 9]), (5, .v false [.own 9]), (6, .v false [.d (.int .i64 (len T))]), (7, .v false [.fn 88 [] [.loc 2 0]])]), (12, .saved tm3 [(0, .v false [.own 9]), (1, .v false [.d (.int .i64 (len T))]), (2, .v false [.fn 88 [] [.loc 2 0]]), (6, .v false [.d (.int .i64 20)]), (7, .v false [.d (.int .i64 0)]), (8, .v false [.d (.int .i64 20)]), (13, .v false [.d (.bool true)]), (14, .v false [.own 9]), (15, .v false [.d (.int .i64 0)]), (16, .v false [.d (.int .i64 20)]), (17, .v false [.fn 88 [] [.loc 2 0]])])]) P3 ?_ ?_ ?_
      · rw [← hU0, hCC0]; exact ⟨rfl, rfl⟩
      · rw [hP3]; trivial
      intro m hm _
      rw [hN3] at hm
      by_cases hi : m + 1 < n
      · have g1 : lt (U m) 20 = true := by rw [hU]; exact ltC (m + 1) true (decide_eq_true hi)
        have g2 : add .i64 (U m) 1 = U (m + 1) := by rw [hU, hU]; exact H.inc hi (Nat.le_trans hn20 (by decide))
        (try cbv)
        repeat' (first | (rw [g1]; (try cbv)) | fail)
        obtain ⟨V, hV⟩ : ∃ V : Nat → Int, ∀ t, V t = Int.ofNat (m + 1 - t) := ⟨_, fun _ => rfl⟩
        obtain ⟨Dm, hDm⟩ : ∃ M : Nat → List (List D), ∀ t, M t = (midS (m + 1) (ordS Q (m + 1)) ((List.range n).drop (m + 2)) (m + 1 - t)).map encN := ⟨_, fun _ => rfl⟩
        have hPl : (ordS Q (m + 1)).length = m + 1 := ordS_length Q (m + 1)
        have hV0 : U m = V 0 := by rw [hU, hV]; rfl
        have hD0 : CC m = Dm 0 := by rw [hCC, hDm, Nat.min_eq_left (by omega), ordS_start Q n (m + 1) hi]; rfl
        have hEnd : ∀ t, t ≤ m + 1 → posS Q (m + 1) (ordS Q (m + 1)) (m + 1) = m + 1 - t → Dm t = CC (m + 1) := fun t ht h => by rw [hDm, hCC, Nat.min_eq_left (by omega), ordS_end Q n (m + 1) (m + 1 - t) h]
        refine loopK ?_
        intro K4 hK4
        obtain ⟨N4, hN4⟩ : ∃ N, N = (m + 1) := ⟨_, rfl⟩
        obtain ⟨P4, hP4⟩ : ∃ P : Nat → Prop, ∀ k, P k = (posS Q (m + 1) (ordS Q (m + 1)) (m + 1) = posS Q (m + 1) (ordS Q (m + 1)) (m + 1 - k)) := ⟨_, fun _ => rfl⟩
        refine loopV N4 (fun k => [(0, .v false [.own 9]), (1, .v false [.d (.int .i64 0)]), (2, .v false [.d (.int .i64 20)]), (3, .v false [.fn 88 [] [.loc 2 0]]), (8, .v false [.d (.int .i64 (U m))]), (9, .v false [.d (.int .i64 (V k))])]) (fun k => [(0, .blk [.d (.row 2 e1), .d (.row 1 e2), .d (.row 1 e3)]), (1, .blk [.d (.row 2 we), .d (.int .i64 o), .d (.int .i64 w)]), (2, .blk [.d (.row 5 qe)]), (3, .blk [.d (.rmap 2 E), .d (.row 3 se)]), (4, .arr 109 3 []), (5, .arr 31 1 Z), (6, .arr 63 5 []), (7, .arr 3 1 []), (8, .blk [.d (.row 2 we), .d (.int .i64 o), .d (.int .i64 w), .d (.rmap 2 E), .d (.row 3 se), .own 6, .own 7, .own 5]), (9, .arr 3 1 (Dm k)), (10, .saved tm1 [(7, .v false [.loc 2 0]), (13, .v false [.loc 8 0]), (14, .v false [.own 9]), (43, .v false [.d (.int .i64 (len qe))]), (44, .v false [.d (.int .i64 ik)]), (45, .v false [.d (.bool false)]), (52, .v false [.own 9]), (53, .v false [.fn 88 [] [.loc 2 0]])]), (11, .saved tm2 [(0, .v false [.own 9]), (1, .v false [.fn 88 [] [.loc 2 0]]), (4, .v false [.own 9]), (5, .v false [.own 9]), (6, .v false [.d (.int .i64 (len T))]), (7, .v false [.fn 88 [] [.loc 2 0]])]), (12, .saved tm3 [(0, .v false [.own 9]), (1, .v false [.d (.int .i64 (len T))]), (2, .v false [.fn 88 [] [.loc 2 0]]), (6, .v false [.d (.int .i64 20)]), (7, .v false [.d (.int .i64 0)]), (8, .v false [.d (.int .i64 20)]), (13, .v false [.d (.bool true)]), (14, .v false [.own 9]), (15, .v false [.d (.int .i64 0)]), (16, .v false [.d (.int .i64 20)]), (17, .v false [.fn 88 [] [.loc 2 0]])])]) P4 ?_ ?_ ?_
        · rw [← hV0, ← hD0]; exact ⟨rfl, rfl⟩
        · rw [hP4]; rfl
        intro t ht hp
        rw [hN4] at ht
        rw [hP4] at hp
        by_cases hj : t = m + 1
        · have g3 : lt 0 (V t) = false := by rw [hV, hj, Nat.sub_self, H.lt]; rfl
          (try cbv)
          repeat' (first | (rw [g3]; (try cbv)) | fail)
          rw [hK4]
          cbv
          exact ⟨by rw [hN3]; show m < n; omega, by rw [hP3]; trivial, by rw [g2], by rw [hEnd t ht (by rw [hp, hj, Nat.sub_self]; rfl)]⟩
        · obtain ⟨j, hjt⟩ : ∃ j, m + 1 - t = j + 1 := ⟨m - t, by omega⟩
          have hjt1 : m + 1 - (t + 1) = j := by omega
          have g3 : lt 0 (V t) = true := by rw [hV, hjt, H.lt]; exact decide_eq_true (by simp)
          have g4 : sub .i64 (V t) 1 = V (t + 1) := by
            rw [hV, hV, hjt, hjt1, H.sub]
            show IntKind.i64.wrap (((j + 1 : Nat) : Int) - 1) = ((j : Nat) : Int)
            rw [wrap64 (by omega) (by omega)]
            omega
          obtain ⟨y, hy⟩ : ∃ y, (ordS Q (m + 1))[j]? = some y := ⟨_, List.getElem?_eq_getElem (by omega)⟩
          have hyk : y < m + 1 := ordS_lt Q (m + 1) y (List.mem_of_getElem? hy)
          have g5 : nth (Dm t) (V t) = some [.int .i64 (Int.ofNat (m + 1))] := by
            rw [hV, hDm, hjt, H.nth, if_pos (show (0 : Int) ≤ Int.ofNat (j + 1) from Int.natCast_nonneg _)]
            show ((midS (m + 1) (ordS Q (m + 1)) ((List.range n).drop (m + 2)) (j + 1)).map encN)[j + 1]? = _
            rw [List.getElem?_map, midS_at (by omega)]
            rfl
          have g6 : nth (Dm t) (V (t + 1)) = some [.int .i64 (Int.ofNat y)] := by
            rw [hV, hDm, hjt, hjt1, H.nth, if_pos (show (0 : Int) ≤ Int.ofNat j from Int.natCast_nonneg _)]
            show ((midS (m + 1) (ordS Q (m + 1)) ((List.range n).drop (m + 2)) (j + 1)).map encN)[j]? = _
            rw [List.getElem?_map, midS_before (by omega), hy]
            rfl
          obtain ⟨qa, hqa⟩ : ∃ qa, l[m + 1]? = some qa := ⟨_, List.getElem?_eq_getElem (by omega)⟩
          obtain ⟨qb, hqb⟩ : ∃ qb, l[y]? = some qb := ⟨_, List.getElem?_eq_getElem (by omega)⟩
          have hcall : GG 88 [(false, [.int .i64 (Int.ofNat (m + 1))]), (false, [.int .i64 (Int.ofNat y)]), (false, [.ro [.row 5 qe] 0])] (.one (false, [.int .i64 (cmpQ qa qb)])) := h88 (m + 1) y qa qb hqa hqb
          have hQy : Q (m + 1) y = decide (cmpQ qa qb < 0) := by rw [hQ, qltS, hqa, hqb]
          have hpos : posS Q (m + 1) (ordS Q (m + 1)) (j + 1) = if Q (m + 1) y then posS Q (m + 1) (ordS Q (m + 1)) j else j + 1 := by rw [posS, hy]
          generalize cmpQ qa qb = c at hcall hQy
          cases hc : lt c 0
          · have hc' : Q (m + 1) y = false := by rw [hQy, ← H.lt]; exact hc
            rw [hc', if_neg (by decide)] at hpos
            (try cbv)
            repeat' (first | (rw [g3]; (try cbv)) | (rw [g5]; (try cbv)) | (rw [g4]; (try cbv)) | (rw [g6]; (try cbv)) | ((refine callI (hG _ _ _ hcall) ?_; intro b hb; subst hb); (try cbv)) | (rw [hc]; (try cbv)) | fail)
            rw [hK4]
            cbv
            exact ⟨by rw [hN3]; show m < n; omega, by rw [hP3]; trivial, by rw [g2], by rw [hEnd t ht (by rw [hp, hjt, hpos])]⟩
          · have hc' : Q (m + 1) y = true := by rw [hQy, ← H.lt]; exact hc
            rw [hc', if_pos rfl] at hpos
            obtain ⟨X, hX⟩ : ∃ X, X = ((midS (m + 1) (ordS Q (m + 1)) ((List.range n).drop (m + 2)) (j + 1)).set (j + 1) y).map encN := ⟨_, rfl⟩
            have hml : (midS (m + 1) (ordS Q (m + 1)) ((List.range n).drop (m + 2)) (j + 1)).length = n := by rw [midS_length (by omega)]; simp; omega
            have g7 : setEl (Dm t) (V t) 0 (.int .i64 (Int.ofNat y)) = some X := by
              rw [hV, hDm, hjt, H.setEl, hX]
              exact setN _ (j + 1) y (by omega)
            have g9 : nth X (V (t + 1)) = some [.int .i64 (Int.ofNat y)] := by
              rw [hV, hX, hjt1, H.nth, if_pos (show (0 : Int) ≤ Int.ofNat j from Int.natCast_nonneg _)]
              show (((midS (m + 1) (ordS Q (m + 1)) ((List.range n).drop (m + 2)) (j + 1)).set (j + 1) y).map encN)[j]? = _
              rw [List.getElem?_map, List.getElem?_set_ne (by omega), midS_before (by omega), hy]
              rfl
            have g8 : setEl X (V (t + 1)) 0 (.int .i64 (Int.ofNat (m + 1))) = some (Dm (t + 1)) := by
              rw [hV, hX, hDm, hjt1, H.setEl, ← midS_swap hy]
              exact setN _ j (m + 1) (by rw [List.length_set]; omega)
            (try cbv)
            repeat' (first | (rw [g3]; (try cbv)) | (rw [g5]; (try cbv)) | (rw [g4]; (try cbv)) | (rw [g6]; (try cbv)) | ((refine callI (hG _ _ _ hcall) ?_; intro b hb; subst hb); (try cbv)) | (rw [hc]; (try cbv)) | (rw [g7]; (try cbv)) | (rw [g9]; (try cbv)) | (rw [g8]; (try cbv)) | fail)
            exact ⟨by rw [hN4]; show t < m + 1; omega, by rw [hP4, hp, hjt, hpos]; show _ = posS Q (m + 1) (ordS Q (m + 1)) (m + 1 - (t + 1)); rw [hjt1], trivial⟩
      · have g1 : lt (U m) 20 = false := by rw [hU]; exact ltC (m + 1) false (decide_eq_false hi)
        have hCn : CC m = SO := by
          rw [hSO, hCC, Nat.min_eq_right (by omega), List.drop_of_length_le (by simp), List.append_nil]
        (try cbv)
        repeat' (first | (rw [g1]; (try cbv)) | fail)
        rw [hK3]
        rw [hCn]
        cbv
        exact ⟨by rw [hN2]; exact Nat.le_refl _, by rw [hP2]; trivial, by rw [hfa1, hfb1, h40], by rw [hTT1]⟩
    · rw [hfa1, hfb1, hTT1]
      (try cbv)
      repeat' (first | (rw [l40]; (try cbv)) | fail)
      rw [hK2]
      cbv
      intro tm3
      cbv
      obtain ⟨z, hz⟩ : ∃ z, z = add .i64 20 1 := ⟨_, rfl⟩
      rw [← hz]
      have hz21 : z = 21 := by rw [hz, H.add, wrap64 (by decide) (by decide)]; rfl
      have g1 : lt z (len T) = false := by rw [hz21, hlT, H.gtK (c := 21) n 21 rfl]; exact decide_eq_false (by omega)
      refine loopK ?_
      intro K3 hK3
      obtain ⟨N3, hN3⟩ : ∃ N, N = 0 := ⟨_, rfl⟩
      obtain ⟨P3, hP3⟩ : ∃ P : Nat → Prop, ∀ k, P k = (True) := ⟨_, fun _ => rfl⟩
      refine loopU N3 (fun k => [(0, .v false [.own 9]), (1, .v false [.d (.int .i64 20)]), (2, .v false [.d (.int .i64 (len T))]), (3, .v false [.fn 88 [] [.loc 2 0]]), (8, .v false [.d (.int .i64 z)])]) [(0, .blk [.d (.row 2 e1), .d (.row 1 e2), .d (.row 1 e3)]), (1, .blk [.d (.row 2 we), .d (.int .i64 o), .d (.int .i64 w)]), (2, .blk [.d (.row 5 qe)]), (3, .blk [.d (.rmap 2 E), .d (.row 3 se)]), (4, .arr 109 3 []), (5, .arr 31 1 Z), (6, .arr 63 5 []), (7, .arr 3 1 []), (8, .blk [.d (.row 2 we), .d (.int .i64 o), .d (.int .i64 w), .d (.rmap 2 E), .d (.row 3 se), .own 6, .own 7, .own 5]), (9, .arr 3 1 (SO)), (10, .saved tm1 [(7, .v false [.loc 2 0]), (13, .v false [.loc 8 0]), (14, .v false [.own 9]), (43, .v false [.d (.int .i64 (len qe))]), (44, .v false [.d (.int .i64 ik)]), (45, .v false [.d (.bool false)]), (52, .v false [.own 9]), (53, .v false [.fn 88 [] [.loc 2 0]])]), (11, .saved tm2 [(0, .v false [.own 9]), (1, .v false [.fn 88 [] [.loc 2 0]]), (4, .v false [.own 9]), (5, .v false [.own 9]), (6, .v false [.d (.int .i64 (len T))]), (7, .v false [.fn 88 [] [.loc 2 0]])]), (12, .saved tm3 [(0, .v false [.own 9]), (1, .v false [.d (.int .i64 (len T))]), (2, .v false [.fn 88 [] [.loc 2 0]]), (6, .v false [.d (.int .i64 20)]), (7, .v false [.d (.int .i64 20)]), (8, .v false [.d (.int .i64 40)]), (13, .v false [.d (.bool false)]), (23, .v false [.own 9]), (24, .v false [.d (.int .i64 20)]), (25, .v false [.d (.int .i64 (len T))]), (26, .v false [.fn 88 [] [.loc 2 0]])])] P3 ⟨rfl, rfl⟩ ?_ ?_
      · rw [hP3]; trivial
      intro k3 hk3 _
      (try cbv)
      repeat' (first | (rw [g1]; (try cbv)) | fail)
      rw [hK3]
      cbv
      have l20t : lt 20 (len T) = false := by rw [hlT, H.gtK (c := 20) n 20 rfl]; exact decide_eq_false (by omega)
      refine loopK ?_
      intro K5 hK5
      obtain ⟨N5, hN5⟩ : ∃ N, N = 0 := ⟨_, rfl⟩
      obtain ⟨P5, hP5⟩ : ∃ P : Nat → Prop, ∀ k, P k = (True) := ⟨_, fun _ => rfl⟩
      refine loopU N5 (fun k => [(0, .v false [.own 9]), (1, .v false [.d (.int .i64 (len T))]), (2, .v false [.fn 88 [] [.loc 2 0]]), (6, .v false [.d (.int .i64 20)])]) [(0, .blk [.d (.row 2 e1), .d (.row 1 e2), .d (.row 1 e3)]), (1, .blk [.d (.row 2 we), .d (.int .i64 o), .d (.int .i64 w)]), (2, .blk [.d (.row 5 qe)]), (3, .blk [.d (.rmap 2 E), .d (.row 3 se)]), (4, .arr 109 3 []), (5, .arr 31 1 Z), (6, .arr 63 5 []), (7, .arr 3 1 []), (8, .blk [.d (.row 2 we), .d (.int .i64 o), .d (.int .i64 w), .d (.rmap 2 E), .d (.row 3 se), .own 6, .own 7, .own 5]), (9, .arr 3 1 (SO)), (10, .saved tm1 [(7, .v false [.loc 2 0]), (13, .v false [.loc 8 0]), (14, .v false [.own 9]), (43, .v false [.d (.int .i64 (len qe))]), (44, .v false [.d (.int .i64 ik)]), (45, .v false [.d (.bool false)]), (52, .v false [.own 9]), (53, .v false [.fn 88 [] [.loc 2 0]])]), (11, .saved tm2 [(0, .v false [.own 9]), (1, .v false [.fn 88 [] [.loc 2 0]]), (4, .v false [.own 9]), (5, .v false [.own 9]), (6, .v false [.d (.int .i64 (len T))]), (7, .v false [.fn 88 [] [.loc 2 0]])])] P5 ⟨rfl, rfl⟩ ?_ ?_
      · rw [hP5]; trivial
      intro k5 hk5 _
      (try cbv)
      repeat' (first | (rw [l20t]; (try cbv)) | fail)
      rw [hK5]
      cbv
      obtain ⟨st, hst⟩ : ∃ s : Nat → Dec, ∀ k, s k = ((ordS Q n).take k).foldl (stepD ref l) ⟨[], [], List.replicate n 0⟩ := ⟨_, fun _ => rfl⟩
      obtain ⟨Ea, hEa⟩ : ∃ A : Nat → List (List D), ∀ k, A k = (st k).acc.map rqD := ⟨_, fun _ => rfl⟩
      obtain ⟨Wh, hWh⟩ : ∃ A : Nat → List (List D), ∀ k, A k = (st k).which.map encN := ⟨_, fun _ => rfl⟩
      obtain ⟨Er, hEr⟩ : ∃ A : Nat → List (List D), ∀ k, A k = (st k).errs.map fun e => [.int .i64 e] := ⟨_, fun _ => rfl⟩
      have hst0 : st 0 = ⟨[], [], List.replicate n 0⟩ := hst 0
      have hZ0 : Z = Er 0 := by rw [hZ, hEr, hst0]; simp
      have hE0 : Ea 0 = [] := by rw [hEa, hst0]; rfl
      have hW0 : Wh 0 = [] := by rw [hWh, hst0]; rfl
      have hbnd : ∀ k, k ≤ n → (st k).acc.length ≤ k ∧ (st k).which.length ≤ k ∧ (st k).errs.length = n := by
        intro k hk
        have := foldD_len ref l ((ordS Q n).take k) ⟨[], [], List.replicate n 0⟩
        rw [← hst] at this
        simp only [List.length_take, ordS_length, List.length_nil, List.length_replicate] at this
        omega
      refine loopK ?_
      intro K6 hK6
      obtain ⟨N6, hN6⟩ : ∃ N, N = n := ⟨_, rfl⟩
      obtain ⟨P6, hP6⟩ : ∃ P : Nat → Prop, ∀ k, P k = (True) := ⟨_, fun _ => rfl⟩
      refine loopV N6 (fun k => [(7, .v false [.loc 2 0]), (13, .v false [.loc 8 0]), (55, .v false [.own 9]), (56, .v false [.d (.int .i64 (len SO))]), (57, .v false [.d (.int .i64 (Int.ofNat k))])]) (fun k => [(0, .blk [.d (.row 2 e1), .d (.row 1 e2), .d (.row 1 e3)]), (1, .blk [.d (.row 2 we), .d (.int .i64 o), .d (.int .i64 w)]), (2, .blk [.d (.row 5 qe)]), (3, .blk [.d (.rmap 2 E), .d (.row 3 se)]), (4, .arr 109 3 []), (5, .arr 31 1 (Er k)), (6, .arr 63 5 (Ea k)), (7, .arr 3 1 (Wh k)), (8, .blk [.d (.row 2 we), .d (.int .i64 o), .d (.int .i64 w), .d (.rmap 2 E), .d (.row 3 se), .own 6, .own 7, .own 5]), (9, .arr 3 1 SO)]) P6 ?_ ?_ ?_
      · rw [hE0, hW0, ← hZ0]; exact ⟨rfl, rfl⟩
      · rw [hP6]; trivial
      intro k6 hk6 _
      rw [hN6] at hk6
      by_cases hkn : k6 < n
      · have g1 : lt (Int.ofNat k6) (len SO) = true := by rw [H.lt, H.len, hSl]; exact decide_eq_true (Int.ofNat_lt.2 hkn)
        have g3 := H.inc hkn (Nat.le_trans hn20 (by decide))
        obtain ⟨i, hi⟩ : ∃ i, (ordS Q n)[k6]? = some i := ⟨_, List.getElem?_eq_getElem (by rw [ordS_length]; exact hkn)⟩
        have hin : i < n := ordS_lt Q n i (List.mem_of_getElem? hi)
        obtain ⟨q, hqi⟩ : ∃ q, l[i]? = some q := ⟨_, List.getElem?_eq_getElem (by omega)⟩
        have hqm : q ∈ l := List.mem_of_getElem? hqi
        have g2 : nth SO (Int.ofNat k6) = some [.int .i64 (Int.ofNat i)] := by
          rw [H.nth, if_pos (show (0 : Int) ≤ Int.ofNat k6 from Int.natCast_nonneg _), hSO]
          show ((ordS Q n).map encN)[k6]? = _
          rw [List.getElem?_map, hi]
          rfl
        have g4 : nth qe (Int.ofNat i) = some (rqD q) := by
          rw [H.nth, if_pos (show (0 : Int) ≤ Int.ofNat i from Int.natCast_nonneg _), show qe = l.map rqD from hq]
          show (l.map rqD)[i]? = _
          rw [List.getElem?_map, hqi]
          rfl
        obtain ⟨hb1, hb2, hb3⟩ := hbnd k6 hk6
        have hc := h90 (st k6).acc (Ea k6) (Wh k6) (Er k6) q (hEa k6) (by omega) hqm
        have hs1 : st (k6 + 1) = stepD ref l (st k6) i := by rw [hst, hst, List.take_add_one, hi]; simp
        rw [stepD, hqi] at hs1
        dsimp only at hs1
        generalize ref (st k6).acc q = c at hc hs1
        have hil : i < (st k6).errs.length := by omega
        obtain ⟨X, hX⟩ : ∃ X, X = ((st k6).errs.set i c).map fun e => [D.int .i64 e] := ⟨_, rfl⟩
        have g5 : ∃ v, nth (Er k6) (Int.ofNat i) = some v := by
          rw [H.nth, if_pos (show (0 : Int) ≤ Int.ofNat i from Int.natCast_nonneg _), hEr]
          show ∃ v, (((st k6).errs).map fun e => [D.int .i64 e])[i]? = some v
          rw [List.getElem?_map, List.getElem?_eq_getElem hil]
          exact ⟨_, rfl⟩
        obtain ⟨v5, g5⟩ := g5
        have g6 : setEl (Er k6) (Int.ofNat i) 0 (.int .i64 c) = some X := by
          rw [H.setEl, hEr, hX]
          exact setI _ i c hil
        have g7 : nth X (Int.ofNat i) = some [.int .i64 c] := by
          rw [H.nth, if_pos (show (0 : Int) ≤ Int.ofNat i from Int.natCast_nonneg _), hX]
          show (((st k6).errs.set i c).map fun e => [D.int .i64 e])[i]? = _
          rw [List.getElem?_map, List.getElem?_set_self hil]
          rfl
        have hf1 : ∀ x, fits 56 (app (Ea k6) [x]) = true := fun x => H.fitsLe (by rw [H.app, hEa]; simp; omega) (by decide)
        have hf2 : ∀ x, fits 8 (app (Wh k6) [x]) = true := fun x => H.fitsLe (by rw [H.app, hWh]; simp; omega) (by decide)
        have hA1 : c = 0 → Ea (k6 + 1) = Ea k6 ++ [rqD q] ∧ Wh (k6 + 1) = Wh k6 ++ [[.int .i64 (Int.ofNat i)]] ∧ Er (k6 + 1) = X := fun h => by
          rw [if_pos h] at hs1
          subst h
          rw [hEa, hEa, hWh, hWh, hEr, hX, hs1]
          simp [encN]
        have hA2 : c ≠ 0 → Ea (k6 + 1) = Ea k6 ∧ Wh (k6 + 1) = Wh k6 ∧ Er (k6 + 1) = X := fun h => by
          rw [if_neg h] at hs1
          rw [hEa, hEa, hWh, hWh, hEr, hX, hs1]
          exact ⟨rfl, rfl, rfl⟩
        obtain ⟨qb, qm, qf, qc, qp⟩ := q
        simp only [rqD, putD] at g4 hc hA1
        generalize (qp.map fun s => [D.str s]) = qpd at g4 hc hA1
        cases he : eq c 0
        · have hc0 : c ≠ 0 := of_decide_eq_false (by rw [← H.eq]; exact he)
          obtain ⟨a1, a2, a3⟩ := hA2 hc0
          (try cbv)
          repeat' (first | (rw [g1]; (try cbv)) | (rw [g2]; (try cbv)) | (rw [g5]; (try cbv)) | (rw [g4]; (try cbv)) | ((refine callI (hG _ _ _ hc) ?_; intro b hb; subst hb); (try cbv)) | (rw [g6]; (try cbv)) | (rw [g7]; (try cbv)) | (rw [he]; (try cbv)) | fail)
          exact ⟨by rw [hN6]; exact hkn, by rw [hP6]; trivial, by rw [g3], by rw [a1, a2, a3]⟩
        · have hc0 : c = 0 := of_decide_eq_true (by rw [← H.eq]; exact he)
          obtain ⟨a1, a2, a3⟩ := hA1 hc0
          (try cbv)
          repeat' (first | (rw [g1]; (try cbv)) | (rw [g2]; (try cbv)) | (rw [g5]; (try cbv)) | (rw [g4]; (try cbv)) | ((refine callI (hG _ _ _ hc) ?_; intro b hb; subst hb); (try cbv)) | (rw [g6]; (try cbv)) | (rw [g7]; (try cbv)) | (rw [he]; (try cbv)) | (refine ⟨(hf1 _), ?_⟩; (try cbv)) | (refine ⟨lenOne rfl, ?_⟩; (try cbv)) | (refine ⟨(hf2 _), ?_⟩; (try cbv)) | (refine ⟨lenOne rfl, ?_⟩; (try cbv)) | fail)
          exact ⟨by rw [hN6]; exact hkn, by rw [hP6]; trivial, by rw [g3], by rw [a1, a2, a3, H.app, H.app]⟩
      · have g1 : lt (Int.ofNat k6) (len SO) = false := by rw [H.lt, H.len, hSl]; exact decide_eq_false (fun h => hkn (Int.ofNat_lt.1 h))
        have hkn' : k6 = n := by omega
        have hfin : st n = decS ref l := by rw [hst, decS, hn, ← hQ, List.take_of_length_le (by rw [ordS_length]; exact Nat.le_refl _)]
        (try cbv)
        repeat' (first | (rw [g1]; (try cbv)) | fail)
        rw [hK6]
        cbv
        rw [hr, hEa, hWh, hEr, hkn', hfin]
        rfl
  · -- fewer than 20: one insertion
    have l20b : le 20 (len T) = false := by rw [hlT, H.le, decide_eq_false_iff_not]; omega
    refine loopK ?_
    intro K2 hK2
    obtain ⟨N2, hN2⟩ : ∃ N, N = 0 := ⟨_, rfl⟩
    obtain ⟨P2, hP2⟩ : ∃ P : Nat → Prop, ∀ k, P k = (True) := ⟨_, fun _ => rfl⟩
    refine loopU N2 (fun k => [(0, .v false [.own 9]), (1, .v false [.d (.int .i64 (len T))]), (2, .v false [.fn 88 [] [.loc 2 0]]), (6, .v false [.d (.int .i64 20)]), (7, .v false [.d (.int .i64 0)]), (8, .v false [.d (.int .i64 20)])]) [(0, .blk [.d (.row 2 e1), .d (.row 1 e2), .d (.row 1 e3)]), (1, .blk [.d (.row 2 we), .d (.int .i64 o), .d (.int .i64 w)]), (2, .blk [.d (.row 5 qe)]), (3, .blk [.d (.rmap 2 E), .d (.row 3 se)]), (4, .arr 109 3 []), (5, .arr 31 1 Z), (6, .arr 63 5 []), (7, .arr 3 1 []), (8, .blk [.d (.row 2 we), .d (.int .i64 o), .d (.int .i64 w), .d (.rmap 2 E), .d (.row 3 se), .own 6, .own 7, .own 5]), (9, .arr 3 1 (T)), (10, .saved tm1 [(7, .v false [.loc 2 0]), (13, .v false [.loc 8 0]), (14, .v false [.own 9]), (43, .v false [.d (.int .i64 (len qe))]), (44, .v false [.d (.int .i64 ik)]), (45, .v false [.d (.bool false)]), (52, .v false [.own 9]), (53, .v false [.fn 88 [] [.loc 2 0]])]), (11, .saved tm2 [(0, .v false [.own 9]), (1, .v false [.fn 88 [] [.loc 2 0]]), (4, .v false [.own 9]), (5, .v false [.own 9]), (6, .v false [.d (.int .i64 (len T))]), (7, .v false [.fn 88 [] [.loc 2 0]])])] P2 ⟨rfl, rfl⟩ ?_ ?_
    · rw [hP2]; trivial
    intro k2 hk2 _
    (try cbv)
    repeat' (first | (rw [l20b]; (try cbv)) | fail)
    rw [hK2]
    cbv
    intro tm3
    cbv

    obtain ⟨U, hU⟩ : ∃ U : Nat → Int, ∀ k, U k = Int.ofNat (k + 1) := ⟨_, fun _ => rfl⟩
    have hU0 : add .i64 0 1 = U 0 := by rw [H.add, hU, wrap64 (by decide) (by decide)]; rfl
    obtain ⟨CC, hCC⟩ : ∃ C : Nat → List (List D), ∀ k, C k = (ordS Q (min (k + 1) n) ++ (List.range n).drop (min (k + 1) n)).map encN := ⟨_, fun _ => rfl⟩
    have hCC0 : CC 0 = T := by
      rw [hCC, hT0]
      rcases Nat.eq_zero_or_pos n with h0 | h0
      · rw [h0]; rfl
      · rw [Nat.min_eq_left (show 0 + 1 ≤ n by omega)]
        have := ordS_end Q n 0 0 rfl
        rw [← this, ordS_start Q n 0 h0]
    refine loopK ?_
    intro K3 hK3
    obtain ⟨N3, hN3⟩ : ∃ N, N = n := ⟨_, rfl⟩
    obtain ⟨P3, hP3⟩ : ∃ P : Nat → Prop, ∀ k, P k = (True) := ⟨_, fun _ => rfl⟩
    refine loopV N3 (fun k => [(0, .v false [.own 9]), (1, .v false [.d (.int .i64 0)]), (2, .v false [.d (.int .i64 (len T))]), (3, .v false [.fn 88 [] [.loc 2 0]]), (8, .v false [.d (.int .i64 (U k))])]) (fun k => [(0, .blk [.d (.row 2 e1), .d (.row 1 e2), .d (.row 1 e3)]), (1, .blk [.d (.row 2 we), .d (.int .i64 o), .d (.int .i64 w)]), (2, .blk [.d (.row 5 qe)]), (3, .blk [.d (.rmap 2 E), .d (.row 3 se)]), (4, .arr 109 3 []), (5, .arr 31 1 Z), (6, .arr 63 5 []), (7, .arr 3 1 []), (8, .blk [.d (.row 2 we), .d (.int .i64 o), .d (.int .i64 w), .d (.rmap 2 E), .d (.row 3 se), .own 6, .own 7, .own 5]), (9, .arr 3 1 (CC k)), (10, .saved tm1 [(7, .v false [.loc 2 0]), (13, .v false [.loc 8 0]), (14, .v false [.own 9]), (43, .v false [.d (.int .i64 (len qe))]), (44, .v false [.d (.int .i64 ik)]), (45, .v false [.d (.bool false)]), (52, .v false [.own 9]), (53, .v false [.fn 88 [] [.loc 2 0]])]), (11, .saved tm2 [(0, .v false [.own 9]), (1, .v false [.fn 88 [] [.loc 2 0]]), (4, .v false [.own 9]), (5, .v false [.own 9]), (6, .v false [.d (.int .i64 (len T))]), (7, .v false [.fn 88 [] [.loc 2 0]])]), (12, .saved tm3 [(0, .v false [.own 9]), (1, .v false [.d (.int .i64 (len T))]), (2, .v false [.fn 88 [] [.loc 2 0]]), (6, .v false [.d (.int .i64 20)]), (7, .v false [.d (.int .i64 0)]), (8, .v false [.d (.int .i64 20)]), (13, .v false [.d (.bool false)]), (23, .v false [.own 9]), (24, .v false [.d (.int .i64 0)]), (25, .v false [.d (.int .i64 (len T))]), (26, .v false [.fn 88 [] [.loc 2 0]])])]) P3 ?_ ?_ ?_
    · rw [← hU0, hCC0]; exact ⟨rfl, rfl⟩
    · rw [hP3]; trivial
    intro m hm _
    rw [hN3] at hm
    by_cases hi : m + 1 < n
    · have g1 : lt (U m) (len T) = true := by rw [hU]; exact ltT (m + 1) true (decide_eq_true hi)
      have g2 : add .i64 (U m) 1 = U (m + 1) := by rw [hU, hU]; exact H.inc hi (Nat.le_trans hn20 (by decide))
      (try cbv)
      repeat' (first | (rw [g1]; (try cbv)) | fail)
      obtain ⟨V, hV⟩ : ∃ V : Nat → Int, ∀ t, V t = Int.ofNat (m + 1 - t) := ⟨_, fun _ => rfl⟩
      obtain ⟨Dm, hDm⟩ : ∃ M : Nat → List (List D), ∀ t, M t = (midS (m + 1) (ordS Q (m + 1)) ((List.range n).drop (m + 2)) (m + 1 - t)).map encN := ⟨_, fun _ => rfl⟩
      have hPl : (ordS Q (m + 1)).length = m + 1 := ordS_length Q (m + 1)
      have hV0 : U m = V 0 := by rw [hU, hV]; rfl
      have hD0 : CC m = Dm 0 := by rw [hCC, hDm, Nat.min_eq_left (by omega), ordS_start Q n (m + 1) hi]; rfl
      have hEnd : ∀ t, t ≤ m + 1 → posS Q (m + 1) (ordS Q (m + 1)) (m + 1) = m + 1 - t → Dm t = CC (m + 1) := fun t ht h => by rw [hDm, hCC, Nat.min_eq_left (by omega), ordS_end Q n (m + 1) (m + 1 - t) h]
      refine loopK ?_
      intro K4 hK4
      obtain ⟨N4, hN4⟩ : ∃ N, N = (m + 1) := ⟨_, rfl⟩
      obtain ⟨P4, hP4⟩ : ∃ P : Nat → Prop, ∀ k, P k = (posS Q (m + 1) (ordS Q (m + 1)) (m + 1) = posS Q (m + 1) (ordS Q (m + 1)) (m + 1 - k)) := ⟨_, fun _ => rfl⟩
      refine loopV N4 (fun k => [(0, .v false [.own 9]), (1, .v false [.d (.int .i64 0)]), (2, .v false [.d (.int .i64 (len T))]), (3, .v false [.fn 88 [] [.loc 2 0]]), (8, .v false [.d (.int .i64 (U m))]), (9, .v false [.d (.int .i64 (V k))])]) (fun k => [(0, .blk [.d (.row 2 e1), .d (.row 1 e2), .d (.row 1 e3)]), (1, .blk [.d (.row 2 we), .d (.int .i64 o), .d (.int .i64 w)]), (2, .blk [.d (.row 5 qe)]), (3, .blk [.d (.rmap 2 E), .d (.row 3 se)]), (4, .arr 109 3 []), (5, .arr 31 1 Z), (6, .arr 63 5 []), (7, .arr 3 1 []), (8, .blk [.d (.row 2 we), .d (.int .i64 o), .d (.int .i64 w), .d (.rmap 2 E), .d (.row 3 se), .own 6, .own 7, .own 5]), (9, .arr 3 1 (Dm k)), (10, .saved tm1 [(7, .v false [.loc 2 0]), (13, .v false [.loc 8 0]), (14, .v false [.own 9]), (43, .v false [.d (.int .i64 (len qe))]), (44, .v false [.d (.int .i64 ik)]), (45, .v false [.d (.bool false)]), (52, .v false [.own 9]), (53, .v false [.fn 88 [] [.loc 2 0]])]), (11, .saved tm2 [(0, .v false [.own 9]), (1, .v false [.fn 88 [] [.loc 2 0]]), (4, .v false [.own 9]), (5, .v false [.own 9]), (6, .v false [.d (.int .i64 (len T))]), (7, .v false [.fn 88 [] [.loc 2 0]])]), (12, .saved tm3 [(0, .v false [.own 9]), (1, .v false [.d (.int .i64 (len T))]), (2, .v false [.fn 88 [] [.loc 2 0]]), (6, .v false [.d (.int .i64 20)]), (7, .v false [.d (.int .i64 0)]), (8, .v false [.d (.int .i64 20)]), (13, .v false [.d (.bool false)]), (23, .v false [.own 9]), (24, .v false [.d (.int .i64 0)]), (25, .v false [.d (.int .i64 (len T))]), (26, .v false [.fn 88 [] [.loc 2 0]])])]) P4 ?_ ?_ ?_
      · rw [← hV0, ← hD0]; exact ⟨rfl, rfl⟩
      · rw [hP4]; rfl
      intro t ht hp
      rw [hN4] at ht
      rw [hP4] at hp
      by_cases hj : t = m + 1
      · have g3 : lt 0 (V t) = false := by rw [hV, hj, Nat.sub_self, H.lt]; rfl
        (try cbv)
        repeat' (first | (rw [g3]; (try cbv)) | fail)
        rw [hK4]
        cbv
        exact ⟨by rw [hN3]; show m < n; omega, by rw [hP3]; trivial, by rw [g2], by rw [hEnd t ht (by rw [hp, hj, Nat.sub_self]; rfl)]⟩
      · obtain ⟨j, hjt⟩ : ∃ j, m + 1 - t = j + 1 := ⟨m - t, by omega⟩
        have hjt1 : m + 1 - (t + 1) = j := by omega
        have g3 : lt 0 (V t) = true := by rw [hV, hjt, H.lt]; exact decide_eq_true (by simp)
        have g4 : sub .i64 (V t) 1 = V (t + 1) := by
          rw [hV, hV, hjt, hjt1, H.sub]
          show IntKind.i64.wrap (((j + 1 : Nat) : Int) - 1) = ((j : Nat) : Int)
          rw [wrap64 (by omega) (by omega)]
          omega
        obtain ⟨y, hy⟩ : ∃ y, (ordS Q (m + 1))[j]? = some y := ⟨_, List.getElem?_eq_getElem (by omega)⟩
        have hyk : y < m + 1 := ordS_lt Q (m + 1) y (List.mem_of_getElem? hy)
        have g5 : nth (Dm t) (V t) = some [.int .i64 (Int.ofNat (m + 1))] := by
          rw [hV, hDm, hjt, H.nth, if_pos (show (0 : Int) ≤ Int.ofNat (j + 1) from Int.natCast_nonneg _)]
          show ((midS (m + 1) (ordS Q (m + 1)) ((List.range n).drop (m + 2)) (j + 1)).map encN)[j + 1]? = _
          rw [List.getElem?_map, midS_at (by omega)]
          rfl
        have g6 : nth (Dm t) (V (t + 1)) = some [.int .i64 (Int.ofNat y)] := by
          rw [hV, hDm, hjt, hjt1, H.nth, if_pos (show (0 : Int) ≤ Int.ofNat j from Int.natCast_nonneg _)]
          show ((midS (m + 1) (ordS Q (m + 1)) ((List.range n).drop (m + 2)) (j + 1)).map encN)[j]? = _
          rw [List.getElem?_map, midS_before (by omega), hy]
          rfl
        obtain ⟨qa, hqa⟩ : ∃ qa, l[m + 1]? = some qa := ⟨_, List.getElem?_eq_getElem (by omega)⟩
        obtain ⟨qb, hqb⟩ : ∃ qb, l[y]? = some qb := ⟨_, List.getElem?_eq_getElem (by omega)⟩
        have hcall : GG 88 [(false, [.int .i64 (Int.ofNat (m + 1))]), (false, [.int .i64 (Int.ofNat y)]), (false, [.ro [.row 5 qe] 0])] (.one (false, [.int .i64 (cmpQ qa qb)])) := h88 (m + 1) y qa qb hqa hqb
        have hQy : Q (m + 1) y = decide (cmpQ qa qb < 0) := by rw [hQ, qltS, hqa, hqb]
        have hpos : posS Q (m + 1) (ordS Q (m + 1)) (j + 1) = if Q (m + 1) y then posS Q (m + 1) (ordS Q (m + 1)) j else j + 1 := by rw [posS, hy]
        generalize cmpQ qa qb = c at hcall hQy
        cases hc : lt c 0
        · have hc' : Q (m + 1) y = false := by rw [hQy, ← H.lt]; exact hc
          rw [hc', if_neg (by decide)] at hpos
          (try cbv)
          repeat' (first | (rw [g3]; (try cbv)) | (rw [g5]; (try cbv)) | (rw [g4]; (try cbv)) | (rw [g6]; (try cbv)) | ((refine callI (hG _ _ _ hcall) ?_; intro b hb; subst hb); (try cbv)) | (rw [hc]; (try cbv)) | fail)
          rw [hK4]
          cbv
          exact ⟨by rw [hN3]; show m < n; omega, by rw [hP3]; trivial, by rw [g2], by rw [hEnd t ht (by rw [hp, hjt, hpos])]⟩
        · have hc' : Q (m + 1) y = true := by rw [hQy, ← H.lt]; exact hc
          rw [hc', if_pos rfl] at hpos
          obtain ⟨X, hX⟩ : ∃ X, X = ((midS (m + 1) (ordS Q (m + 1)) ((List.range n).drop (m + 2)) (j + 1)).set (j + 1) y).map encN := ⟨_, rfl⟩
          have hml : (midS (m + 1) (ordS Q (m + 1)) ((List.range n).drop (m + 2)) (j + 1)).length = n := by rw [midS_length (by omega)]; simp; omega
          have g7 : setEl (Dm t) (V t) 0 (.int .i64 (Int.ofNat y)) = some X := by
            rw [hV, hDm, hjt, H.setEl, hX]
            exact setN _ (j + 1) y (by omega)
          have g9 : nth X (V (t + 1)) = some [.int .i64 (Int.ofNat y)] := by
            rw [hV, hX, hjt1, H.nth, if_pos (show (0 : Int) ≤ Int.ofNat j from Int.natCast_nonneg _)]
            show (((midS (m + 1) (ordS Q (m + 1)) ((List.range n).drop (m + 2)) (j + 1)).set (j + 1) y).map encN)[j]? = _
            rw [List.getElem?_map, List.getElem?_set_ne (by omega), midS_before (by omega), hy]
            rfl
          have g8 : setEl X (V (t + 1)) 0 (.int .i64 (Int.ofNat (m + 1))) = some (Dm (t + 1)) := by
            rw [hV, hX, hDm, hjt1, H.setEl, ← midS_swap hy]
            exact setN _ j (m + 1) (by rw [List.length_set]; omega)
          (try cbv)
          repeat' (first | (rw [g3]; (try cbv)) | (rw [g5]; (try cbv)) | (rw [g4]; (try cbv)) | (rw [g6]; (try cbv)) | ((refine callI (hG _ _ _ hcall) ?_; intro b hb; subst hb); (try cbv)) | (rw [hc]; (try cbv)) | (rw [g7]; (try cbv)) | (rw [g9]; (try cbv)) | (rw [g8]; (try cbv)) | fail)
          exact ⟨by rw [hN4]; show t < m + 1; omega, by rw [hP4, hp, hjt, hpos]; show _ = posS Q (m + 1) (ordS Q (m + 1)) (m + 1 - (t + 1)); rw [hjt1], trivial⟩
    · have g1 : lt (U m) (len T) = false := by rw [hU]; exact ltT (m + 1) false (decide_eq_false hi)
      have hCn : CC m = SO := by
        rw [hSO, hCC, Nat.min_eq_right (by omega), List.drop_of_length_le (by simp), List.append_nil]
      (try cbv)
      repeat' (first | (rw [g1]; (try cbv)) | fail)
      rw [hK3]
      rw [hCn]
      cbv

      have l20t : lt 20 (len T) = false := by rw [hlT, H.gtK (c := 20) n 20 rfl]; exact decide_eq_false (by omega)
      refine loopK ?_
      intro K5 hK5
      obtain ⟨N5, hN5⟩ : ∃ N, N = 0 := ⟨_, rfl⟩
      obtain ⟨P5, hP5⟩ : ∃ P : Nat → Prop, ∀ k, P k = (True) := ⟨_, fun _ => rfl⟩
      refine loopU N5 (fun k => [(0, .v false [.own 9]), (1, .v false [.d (.int .i64 (len T))]), (2, .v false [.fn 88 [] [.loc 2 0]]), (6, .v false [.d (.int .i64 20)])]) [(0, .blk [.d (.row 2 e1), .d (.row 1 e2), .d (.row 1 e3)]), (1, .blk [.d (.row 2 we), .d (.int .i64 o), .d (.int .i64 w)]), (2, .blk [.d (.row 5 qe)]), (3, .blk [.d (.rmap 2 E), .d (.row 3 se)]), (4, .arr 109 3 []), (5, .arr 31 1 Z), (6, .arr 63 5 []), (7, .arr 3 1 []), (8, .blk [.d (.row 2 we), .d (.int .i64 o), .d (.int .i64 w), .d (.rmap 2 E), .d (.row 3 se), .own 6, .own 7, .own 5]), (9, .arr 3 1 (SO)), (10, .saved tm1 [(7, .v false [.loc 2 0]), (13, .v false [.loc 8 0]), (14, .v false [.own 9]), (43, .v false [.d (.int .i64 (len qe))]), (44, .v false [.d (.int .i64 ik)]), (45, .v false [.d (.bool false)]), (52, .v false [.own 9]), (53, .v false [.fn 88 [] [.loc 2 0]])]), (11, .saved tm2 [(0, .v false [.own 9]), (1, .v false [.fn 88 [] [.loc 2 0]]), (4, .v false [.own 9]), (5, .v false [.own 9]), (6, .v false [.d (.int .i64 (len T))]), (7, .v false [.fn 88 [] [.loc 2 0]])])] P5 ⟨rfl, rfl⟩ ?_ ?_
      · rw [hP5]; trivial
      intro k5 hk5 _
      (try cbv)
      repeat' (first | (rw [l20t]; (try cbv)) | fail)
      rw [hK5]
      cbv
      obtain ⟨st, hst⟩ : ∃ s : Nat → Dec, ∀ k, s k = ((ordS Q n).take k).foldl (stepD ref l) ⟨[], [], List.replicate n 0⟩ := ⟨_, fun _ => rfl⟩
      obtain ⟨Ea, hEa⟩ : ∃ A : Nat → List (List D), ∀ k, A k = (st k).acc.map rqD := ⟨_, fun _ => rfl⟩
      obtain ⟨Wh, hWh⟩ : ∃ A : Nat → List (List D), ∀ k, A k = (st k).which.map encN := ⟨_, fun _ => rfl⟩
      obtain ⟨Er, hEr⟩ : ∃ A : Nat → List (List D), ∀ k, A k = (st k).errs.map fun e => [.int .i64 e] := ⟨_, fun _ => rfl⟩
      have hst0 : st 0 = ⟨[], [], List.replicate n 0⟩ := hst 0
      have hZ0 : Z = Er 0 := by rw [hZ, hEr, hst0]; simp
      have hE0 : Ea 0 = [] := by rw [hEa, hst0]; rfl
      have hW0 : Wh 0 = [] := by rw [hWh, hst0]; rfl
      have hbnd : ∀ k, k ≤ n → (st k).acc.length ≤ k ∧ (st k).which.length ≤ k ∧ (st k).errs.length = n := by
        intro k hk
        have := foldD_len ref l ((ordS Q n).take k) ⟨[], [], List.replicate n 0⟩
        rw [← hst] at this
        simp only [List.length_take, ordS_length, List.length_nil, List.length_replicate] at this
        omega
      refine loopK ?_
      intro K6 hK6
      obtain ⟨N6, hN6⟩ : ∃ N, N = n := ⟨_, rfl⟩
      obtain ⟨P6, hP6⟩ : ∃ P : Nat → Prop, ∀ k, P k = (True) := ⟨_, fun _ => rfl⟩
      refine loopV N6 (fun k => [(7, .v false [.loc 2 0]), (13, .v false [.loc 8 0]), (55, .v false [.own 9]), (56, .v false [.d (.int .i64 (len SO))]), (57, .v false [.d (.int .i64 (Int.ofNat k))])]) (fun k => [(0, .blk [.d (.row 2 e1), .d (.row 1 e2), .d (.row 1 e3)]), (1, .blk [.d (.row 2 we), .d (.int .i64 o), .d (.int .i64 w)]), (2, .blk [.d (.row 5 qe)]), (3, .blk [.d (.rmap 2 E), .d (.row 3 se)]), (4, .arr 109 3 []), (5, .arr 31 1 (Er k)), (6, .arr 63 5 (Ea k)), (7, .arr 3 1 (Wh k)), (8, .blk [.d (.row 2 we), .d (.int .i64 o), .d (.int .i64 w), .d (.rmap 2 E), .d (.row 3 se), .own 6, .own 7, .own 5]), (9, .arr 3 1 SO)]) P6 ?_ ?_ ?_
      · rw [hE0, hW0, ← hZ0]; exact ⟨rfl, rfl⟩
      · rw [hP6]; trivial
      intro k6 hk6 _
      rw [hN6] at hk6
      by_cases hkn : k6 < n
      · have g1 : lt (Int.ofNat k6) (len SO) = true := by rw [H.lt, H.len, hSl]; exact decide_eq_true (Int.ofNat_lt.2 hkn)
        have g3 := H.inc hkn (Nat.le_trans hn20 (by decide))
        obtain ⟨i, hi⟩ : ∃ i, (ordS Q n)[k6]? = some i := ⟨_, List.getElem?_eq_getElem (by rw [ordS_length]; exact hkn)⟩
        have hin : i < n := ordS_lt Q n i (List.mem_of_getElem? hi)
        obtain ⟨q, hqi⟩ : ∃ q, l[i]? = some q := ⟨_, List.getElem?_eq_getElem (by omega)⟩
        have hqm : q ∈ l := List.mem_of_getElem? hqi
        have g2 : nth SO (Int.ofNat k6) = some [.int .i64 (Int.ofNat i)] := by
          rw [H.nth, if_pos (show (0 : Int) ≤ Int.ofNat k6 from Int.natCast_nonneg _), hSO]
          show ((ordS Q n).map encN)[k6]? = _
          rw [List.getElem?_map, hi]
          rfl
        have g4 : nth qe (Int.ofNat i) = some (rqD q) := by
          rw [H.nth, if_pos (show (0 : Int) ≤ Int.ofNat i from Int.natCast_nonneg _), show qe = l.map rqD from hq]
          show (l.map rqD)[i]? = _
          rw [List.getElem?_map, hqi]
          rfl
        obtain ⟨hb1, hb2, hb3⟩ := hbnd k6 hk6
        have hc := h90 (st k6).acc (Ea k6) (Wh k6) (Er k6) q (hEa k6) (by omega) hqm
        have hs1 : st (k6 + 1) = stepD ref l (st k6) i := by rw [hst, hst, List.take_add_one, hi]; simp
        rw [stepD, hqi] at hs1
        dsimp only at hs1
        generalize ref (st k6).acc q = c at hc hs1
        have hil : i < (st k6).errs.length := by omega
        obtain ⟨X, hX⟩ : ∃ X, X = ((st k6).errs.set i c).map fun e => [D.int .i64 e] := ⟨_, rfl⟩
        have g5 : ∃ v, nth (Er k6) (Int.ofNat i) = some v := by
          rw [H.nth, if_pos (show (0 : Int) ≤ Int.ofNat i from Int.natCast_nonneg _), hEr]
          show ∃ v, (((st k6).errs).map fun e => [D.int .i64 e])[i]? = some v
          rw [List.getElem?_map, List.getElem?_eq_getElem hil]
          exact ⟨_, rfl⟩
        obtain ⟨v5, g5⟩ := g5
        have g6 : setEl (Er k6) (Int.ofNat i) 0 (.int .i64 c) = some X := by
          rw [H.setEl, hEr, hX]
          exact setI _ i c hil
        have g7 : nth X (Int.ofNat i) = some [.int .i64 c] := by
          rw [H.nth, if_pos (show (0 : Int) ≤ Int.ofNat i from Int.natCast_nonneg _), hX]
          show (((st k6).errs.set i c).map fun e => [D.int .i64 e])[i]? = _
          rw [List.getElem?_map, List.getElem?_set_self hil]
          rfl
        have hf1 : ∀ x, fits 56 (app (Ea k6) [x]) = true := fun x => H.fitsLe (by rw [H.app, hEa]; simp; omega) (by decide)
        have hf2 : ∀ x, fits 8 (app (Wh k6) [x]) = true := fun x => H.fitsLe (by rw [H.app, hWh]; simp; omega) (by decide)
        have hA1 : c = 0 → Ea (k6 + 1) = Ea k6 ++ [rqD q] ∧ Wh (k6 + 1) = Wh k6 ++ [[.int .i64 (Int.ofNat i)]] ∧ Er (k6 + 1) = X := fun h => by
          rw [if_pos h] at hs1
          subst h
          rw [hEa, hEa, hWh, hWh, hEr, hX, hs1]
          simp [encN]
        have hA2 : c ≠ 0 → Ea (k6 + 1) = Ea k6 ∧ Wh (k6 + 1) = Wh k6 ∧ Er (k6 + 1) = X := fun h => by
          rw [if_neg h] at hs1
          rw [hEa, hEa, hWh, hWh, hEr, hX, hs1]
          exact ⟨rfl, rfl, rfl⟩
        obtain ⟨qb, qm, qf, qc, qp⟩ := q
        simp only [rqD, putD] at g4 hc hA1
        generalize (qp.map fun s => [D.str s]) = qpd at g4 hc hA1
        cases he : eq c 0
        · have hc0 : c ≠ 0 := of_decide_eq_false (by rw [← H.eq]; exact he)
          obtain ⟨a1, a2, a3⟩ := hA2 hc0
          (try cbv)
          repeat' (first | (rw [g1]; (try cbv)) | (rw [g2]; (try cbv)) | (rw [g5]; (try cbv)) | (rw [g4]; (try cbv)) | ((refine callI (hG _ _ _ hc) ?_; intro b hb; subst hb); (try cbv)) | (rw [g6]; (try cbv)) | (rw [g7]; (try cbv)) | (rw [he]; (try cbv)) | fail)
          exact ⟨by rw [hN6]; exact hkn, by rw [hP6]; trivial, by rw [g3], by rw [a1, a2, a3]⟩
        · have hc0 : c = 0 := of_decide_eq_true (by rw [← H.eq]; exact he)
          obtain ⟨a1, a2, a3⟩ := hA1 hc0
          (try cbv)
          repeat' (first | (rw [g1]; (try cbv)) | (rw [g2]; (try cbv)) | (rw [g5]; (try cbv)) | (rw [g4]; (try cbv)) | ((refine callI (hG _ _ _ hc) ?_; intro b hb; subst hb); (try cbv)) | (rw [g6]; (try cbv)) | (rw [g7]; (try cbv)) | (rw [he]; (try cbv)) | (refine ⟨(hf1 _), ?_⟩; (try cbv)) | (refine ⟨lenOne rfl, ?_⟩; (try cbv)) | (refine ⟨(hf2 _), ?_⟩; (try cbv)) | (refine ⟨lenOne rfl, ?_⟩; (try cbv)) | fail)
          exact ⟨by rw [hN6]; exact hkn, by rw [hP6]; trivial, by rw [g3], by rw [a1, a2, a3, H.app, H.app]⟩
      · have g1 : lt (Int.ofNat k6) (len SO) = false := by rw [H.lt, H.len, hSl]; exact decide_eq_false (fun h => hkn (Int.ofNat_lt.1 h))
        have hkn' : k6 = n := by omega
        have hfin : st n = decS ref l := by rw [hst, decS, hn, ← hQ, List.take_of_length_le (by rw [ordS_length]; exact Nat.le_refl _)]
        (try cbv)
        repeat' (first | (rw [g1]; (try cbv)) | fail)
        rw [hK6]
        cbv
        rw [hr, hEa, hWh, hEr, hkn', hfin]
        rfl
end Go.Vi
