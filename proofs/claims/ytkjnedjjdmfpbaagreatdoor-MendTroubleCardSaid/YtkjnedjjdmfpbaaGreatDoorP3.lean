/-
  Contract of Lexicon.read.
-/
import Derived.Test.YtkjnedjjdmfpbaaGreatDoorP2
import Derived.Test.YtkjnedjjdmfpbaaGreatDoorA6
set_option linter.unusedVariables false
set_option linter.unusedSimpArgs false
set_option linter.unusedSectionVars false
namespace Go.Vi
open Go.Proofs
set_option maxRecDepth 100000
set_option linter.unusedVariables false
set_option linter.unusedSimpArgs false
theorem g86 (e1 e2 e3 : List (List D)) : GG 86 [(true, [.row 2 e1, .row 1 e2, .row 1 e3])] (.one (false, [.fn 111 [] [.ro [.row 2 e1, .row 1 e2, .row 1 e3] 0]])) := by
  refine start c86 rfl ?_
  intro r' hr G hG hGW lt le eq add sub mul quo rem conv strEq strLt strCat strLen strAt strCut bytes ofBytes len nth cut fits app rep setEl look upd ne strNe H
  (try cbv)
  repeat' (first | fail)
  rw [hr]
/-! ### what a lexicon lists -/
def numP (x : Num) : ByteArray × Mrk := (x.t, ⟨1, x.v⟩)
def nameP (i : Nat) (s : ByteArray) : ByteArray × Mrk := (s, ⟨2, Int.ofNat i⟩)
def notP (s : ByteArray) : ByteArray × Mrk := (s, ⟨3, 0⟩)
def namesP : Nat → List (List ByteArray) → List (ByteArray × Mrk)
  | _, [] => []
  | i, l :: r => l.map (nameP i) ++ namesP (i + 1) r
def lexP (nums : List Num) (names : List (List ByteArray)) (nots : List ByteArray) : List (ByteArray × Mrk) := nums.map numP ++ (namesP 0 names ++ nots.map notP)
def eM (l : List (ByteArray × Mrk)) : List (D × List D) := l.map fun p => (.str p.1, [.int .u8 p.2.k, .int .i64 p.2.v])
def keysOk (l : List (ByteArray × Mrk)) : Bool := decide (l.map Prod.fst).Nodup
def lexOk (nums : List Num) (names : List (List ByteArray)) (nots : List ByteArray) : Bool :=
  (decide (nums.length ≤ 40) && (decide (names.length ≤ 40) && decide (nots.length ≤ 40))) && (nums.all (fun x => textOk x.t && valOk x.v) && (names.all namesOk && nots.all textOk))
def readR (nums : List Num) (names : List (List ByteArray)) (nots : List ByteArray) : R :=
  bif lexOk nums names nots then (bif keysOk (lexP nums names nots) then .many [(false, [.rmap 2 (eM (lexP nums names nots))]), (false, [.int .i64 0])] else .many [(false, [.map0]), (false, [.int .i64 6])])
  else .many [(false, [.map0]), (false, [.int .i64 1])]
/-- A key is there or not. -/
theorem sameKey_str (a b : ByteArray) : sameKey (.str a) (.str b) = decide (a = b) := bytes_eq a b
theorem updM (s : ByteArray) (m : Mrk) : ∀ Q : List (ByteArray × Mrk), s ∉ Q.map Prod.fst → updL (eM Q) (.str s) [.int .u8 m.k, .int .i64 m.v] = eM (Q ++ [(s, m)])
  | [], _ => rfl
  | p :: r, h => by
    simp only [List.map_cons, List.mem_cons, not_or] at h
    have := updM s m r h.2
    simp only [eM, List.map_cons, List.cons_append, updL] at this ⊢
    rw [sameKey_str, decide_eq_false (fun he => h.1 he.symm), this]
    rfl
theorem lookM (s : ByteArray) : ∀ Q : List (ByteArray × Mrk), (s ∉ Q.map Prod.fst ∧ prims.look (eM Q) (.str s) = none) ∨ (∃ m, s ∈ Q.map Prod.fst ∧ (s, m) ∈ Q ∧ prims.look (eM Q) (.str s) = some [.int .u8 m.k, .int .i64 m.v])
  | [] => .inl ⟨by simp, rfl⟩
  | p :: r => by
    by_cases h : p.1 = s
    · refine .inr ⟨p.2, by rw [← h]; simp, by rw [← h]; simp, ?_⟩
      have : sameKey (D.str p.1) (.str s) = true := by rw [sameKey_str, decide_eq_true h]
      simp only [eM, List.map_cons, prims, List.find?_cons, this, Option.map_some]
    · have : sameKey (D.str p.1) (.str s) = false := by rw [sameKey_str, decide_eq_false h]
      have hs : prims.look (eM (p :: r)) (.str s) = prims.look (eM r) (.str s) := by
        simp only [eM, List.map_cons, prims, List.find?_cons, this]
      rw [hs]
      rcases lookM s r with ⟨h1, h2⟩ | ⟨m, h0, h1, h2⟩
      · exact .inl ⟨by simp only [List.map_cons, List.mem_cons, not_or]; exact ⟨fun he => h he.symm, h1⟩, h2⟩
      · exact .inr ⟨m, by simp only [List.map_cons, List.mem_cons]; exact .inr h0, List.mem_cons_of_mem _ h1, h2⟩
theorem dupK {Q R : List (ByteArray × Mrk)} {s : ByteArray} {m : Mrk} (h : s ∈ Q.map Prod.fst) : keysOk (Q ++ (s, m) :: R) = false := by
  unfold keysOk
  rw [decide_eq_false_iff_not, List.map_append, List.nodup_append]
  rintro ⟨_, _, h3⟩
  exact h3 _ h s (by simp) rfl
theorem nodupK {Q : List (ByteArray × Mrk)} {s : ByteArray} {m : Mrk} (hp : (Q.map Prod.fst).Nodup) (h : s ∉ Q.map Prod.fst) : ((Q ++ [(s, m)]).map Prod.fst).Nodup := by
  rw [List.map_append, List.nodup_append]
  refine ⟨hp, by simp, ?_⟩
  rintro a ha b hb rfl
  simp at hb
  subst hb
  exact h ha
theorem namesP_append : ∀ (a b : List (List ByteArray)) (i : Nat), namesP i (a ++ b) = namesP i a ++ namesP (i + a.length) b
  | [], b, i => rfl
  | x :: r, b, i => by
    simp only [List.cons_append, namesP, List.length_cons, namesP_append r b (i + 1), List.append_assoc]
    congr 3
    omega
theorem take_drop_cons {α : Type} {l r : List α} {x : α} {k : Nat} (h : l.drop k = x :: r) : l = l.take k ++ x :: r := by rw [← h, List.take_append_drop]
set_option maxHeartbeats 4000000 in
theorem g58 (nums : List Num) (names : List (List ByteArray)) (nots : List ByteArray) (e1 e2 e3 : List (List D)) (he1 : nuE nums e1) (he2 : nsE names e2) (he3 : txE nots e3) (hm1 : nums.length ≤ maxLen) (hm5 : ∀ x ∈ nums, x.t.size ≤ maxLen) (hm2 : names.length ≤ maxLen) (hm3 : Short nots) (hm4 : ∀ l ∈ names, Short l) :
    GG 58 [(true, [.row 2 e1, .row 1 e2, .row 1 e3])] (readR nums names nots) := by
  have hl1 := map_len he1
  have hl2 := map_len he2
  have hl3 := map_len he3
  refine startI c58 ?_
  intro r' hr G hG hGW lt le eq add sub mul quo rem conv strEq strLt strCat strLen strAt strCut bytes ofBytes len nth cut fits app rep setEl look upd ne strNe H
  have h85 := g85 (fun x : Num => D.str x.t) (fun x => D.int .i64 x.v) nums e1 he1 hm1 82 [] [] (fun x => textOk x.t && valOk x.v) (fun x hx => g82 x.t x.v (hm5 x hx))
  have h74 := g74 (fun l : List ByteArray => D.row 1 (l.map fun s => [.str s])) names e2 he2 hm2 83 [] [] namesOk (fun x hx => g83 x _ rfl (hm4 x hx))
  have h77 := g77t nots e3 he3 hm3
  have q1 := H.leK (c := 40) nums.length 40 rfl
  have q2 := H.leK (c := 40) names.length 40 rfl
  have q3 := H.leK (c := 40) nots.length 40 rfl
  rw [← hl1, ← H.len] at q1
  rw [← hl2, ← H.len] at q2
  rw [← hl3, ← H.len] at q3
  rw [hl1] at q1
  rw [hl2] at q2
  rw [hl3] at q3
  simp only [readR, lexOk, ← q1, ← q2, ← q3] at hr
  generalize nums.all (fun x => textOk x.t && valOk x.v) = p1 at h85 hr
  generalize names.all namesOk = p2 at h74 hr
  generalize nots.all textOk = p3 at h77 hr
  cases hc1 : le (len e1) 40
  · rw [hc1] at hr
    (try cbv)
    repeat' (first | (rw [hc1]; (try cbv)) | fail)
    rw [hr]; rfl
  cases hc2 : le (len e2) 40
  · rw [hc1, hc2] at hr
    (try cbv)
    repeat' (first | (rw [hc1]; (try cbv)) | (rw [hc2]; (try cbv)) | fail)
    rw [hr]; rfl
  cases hc3 : le (len e3) 40
  · rw [hc1, hc2, hc3] at hr
    (try cbv)
    repeat' (first | (rw [hc1]; (try cbv)) | (rw [hc2]; (try cbv)) | (rw [hc3]; (try cbv)) | fail)
    rw [hr]; rfl
  rw [hc1, hc2, hc3] at hr
  cases p1
  · (try cbv)
    repeat' (first | (rw [hc1]; (try cbv)) | (rw [hc2]; (try cbv)) | (rw [hc3]; (try cbv)) | ((refine callB (hG _ _ _ h85) ?_; intro b hb; subst hb); (try cbv)) | fail)
    rw [hr]; rfl
  cases p2
  · (try cbv)
    repeat' (first | (rw [hc1]; (try cbv)) | (rw [hc2]; (try cbv)) | (rw [hc3]; (try cbv)) | ((refine callB (hG _ _ _ h85) ?_; intro b hb; subst hb); (try cbv)) | ((refine callB (hG _ _ _ h74) ?_; intro b hb; subst hb); (try cbv)) | fail)
    rw [hr]; rfl
  cases p3
  · (try cbv)
    repeat' (first | (rw [hc1]; (try cbv)) | (rw [hc2]; (try cbv)) | (rw [hc3]; (try cbv)) | ((refine callB (hG _ _ _ h85) ?_; intro b hb; subst hb); (try cbv)) | ((refine callB (hG _ _ _ h74) ?_; intro b hb; subst hb); (try cbv)) | ((refine callB (hG _ _ _ h77) ?_; intro b hb; subst hb); (try cbv)) | fail)
    rw [hr]; rfl
  (try cbv)
  repeat' (first | (rw [hc1]; (try cbv)) | (rw [hc2]; (try cbv)) | (rw [hc3]; (try cbv)) | ((refine callB (hG _ _ _ h85) ?_; intro b hb; subst hb); (try cbv)) | ((refine callB (hG _ _ _ h74) ?_; intro b hb; subst hb); (try cbv)) | ((refine callB (hG _ _ _ h77) ?_; intro b hb; subst hb); (try cbv)) | fail)
  refine call0 (hG _ _ _ (g86 _ _ _)) ?_
  intro l tm ρ hρ
  cbv
  obtain ⟨E, hE⟩ : ∃ E : Nat → List (D × List D), ∀ k, E k = eM ((nums.take k).map numP) := ⟨_, fun _ => rfl⟩
  refine loopK ?_
  intro K hK
  obtain ⟨N, hN⟩ : ∃ N, N = nums.length := ⟨_, rfl⟩
  obtain ⟨P, hP⟩ : ∃ P : Nat → Prop, ∀ k, P k = ((((nums.take k).map numP).map Prod.fst).Nodup) := ⟨_, fun _ => rfl⟩
  refine loopV N (fun k => [(0, .v false [.d (.yld l 5)]), (1, .v false [.d (.ro [.row 2 e1, .row 1 e2, .row 1 e3] 0)]), (12, .v false [.d (.row 2 e1)]), (13, .v false [.d (.int .i64 (len e1))]), (14, .v false [.d (.int .i64 (Int.ofNat k))])]) (fun k => [(0, .blk [.d (.row 2 e1), .d (.row 1 e2), .d (.row 1 e3)]), (1, .blk [.d .map0]), (2, .blk [.d (.int .i64 0)]), (3, .map 2 (E k)), (4, .blk [.lmap 3]), (5, .saved tm [(2, .v false [.loc 1 0]), (3, .v false [.loc 2 0]), (7, .v false [.loc 4 0]), (52, .v false [.d (.fn 111 [] [.ro [.row 2 e1, .row 1 e2, .row 1 e3] 0])])]), (6, .lp l ρ .ready none)]) P ?_ ?_ ?_
  · rw [hE 0]
    exact ⟨rfl, rfl⟩
  · rw [hP]; exact List.nodup_nil
  · intro k hk hp
    rw [hN] at hk
    rw [hP] at hp
    rcases hd : nums.drop k with _ | ⟨x, r⟩
    · have h1 := H.rowNil he1 hd hk
      rw [drop_nil hd hk, List.take_length] at hp
      have hEk : E k = eM (nums.map numP) := by rw [hE, drop_nil hd hk, List.take_length]
      obtain ⟨E0, hE0⟩ : ∃ E0, E0 = E k := ⟨_, rfl⟩
      rw [← hE0] at hEk ⊢
      (try cbv)
      repeat' (first | (rw [h1]; (try cbv)) | fail)
      rw [hK]
      cbv
      obtain ⟨E2, hE2⟩ : ∃ E : Nat → List (D × List D), ∀ i, E i = eM (nums.map numP ++ namesP 0 (names.take i)) := ⟨_, fun _ => rfl⟩
      have hE0' : E0 = E2 0 := by rw [hEk, hE2]; simp [namesP]
      rw [hE0']
      clear hN N hP P
      refine loopK ?_
      intro K hK
      obtain ⟨N, hN⟩ : ∃ N, N = names.length := ⟨_, rfl⟩
      obtain ⟨P, hP⟩ : ∃ P : Nat → Prop, ∀ k, P k = (((nums.map numP ++ namesP 0 (names.take k)).map Prod.fst).Nodup) := ⟨_, fun _ => rfl⟩
      refine loopV N (fun k => [(0, .v false [.d (.yld l 5)]), (1, .v false [.d (.ro [.row 2 e1, .row 1 e2, .row 1 e3] 0)]), (28, .v false [.d (.row 1 e2)]), (29, .v false [.d (.int .i64 (len e2))]), (30, .v false [.d (.int .i64 (Int.ofNat k))])]) (fun k => [(0, .blk [.d (.row 2 e1), .d (.row 1 e2), .d (.row 1 e3)]), (1, .blk [.d .map0]), (2, .blk [.d (.int .i64 0)]), (3, .map 2 (E2 k)), (4, .blk [.lmap 3]), (5, .saved tm [(2, .v false [.loc 1 0]), (3, .v false [.loc 2 0]), (7, .v false [.loc 4 0]), (52, .v false [.d (.fn 111 [] [.ro [.row 2 e1, .row 1 e2, .row 1 e3] 0])])]), (6, .lp l ρ .ready none)]) P ?_ ?_ ?_
      · exact ⟨rfl, rfl⟩
      · rw [hP]; simpa [namesP] using hp
      · intro i hi hp
        rw [hN] at hi
        rw [hP] at hp
        rcases hd : names.drop i with _ | ⟨x, r⟩
        · have h1 := H.rowNil he2 hd hi
          rw [drop_nil hd hi, List.take_length] at hp
          have hEi : E2 i = eM (nums.map numP ++ namesP 0 names) := by rw [hE2, drop_nil hd hi, List.take_length]
          obtain ⟨E0, hE0⟩ : ∃ E0, E0 = E2 i := ⟨_, rfl⟩
          rw [← hE0] at hEi ⊢
          (try cbv)
          repeat' (first | (rw [h1]; (try cbv)) | fail)
          rw [hK]
          cbv
          obtain ⟨E4, hE4⟩ : ∃ E : Nat → List (D × List D), ∀ j, E j = eM (nums.map numP ++ namesP 0 names ++ (nots.take j).map notP) := ⟨_, fun _ => rfl⟩
          have hE40 : E0 = E4 0 := by rw [hEi, hE4]; simp
          rw [hE40]
          clear hN N hP P
          refine loopK ?_
          intro K hK
          obtain ⟨N, hN⟩ : ∃ N, N = nots.length := ⟨_, rfl⟩
          obtain ⟨P, hP⟩ : ∃ P : Nat → Prop, ∀ k, P k = (((nums.map numP ++ namesP 0 names ++ (nots.take k).map notP).map Prod.fst).Nodup) := ⟨_, fun _ => rfl⟩
          refine loopV N (fun k => [(0, .v false [.d (.yld l 5)]), (50, .v false [.d (.row 1 e3)]), (51, .v false [.d (.int .i64 (len e3))]), (52, .v false [.d (.int .i64 (Int.ofNat k))])]) (fun k => [(0, .blk [.d (.row 2 e1), .d (.row 1 e2), .d (.row 1 e3)]), (1, .blk [.d .map0]), (2, .blk [.d (.int .i64 0)]), (3, .map 2 (E4 k)), (4, .blk [.lmap 3]), (5, .saved tm [(2, .v false [.loc 1 0]), (3, .v false [.loc 2 0]), (7, .v false [.loc 4 0]), (52, .v false [.d (.fn 111 [] [.ro [.row 2 e1, .row 1 e2, .row 1 e3] 0])])]), (6, .lp l ρ .ready none)]) P ?_ ?_ ?_
          · exact ⟨rfl, rfl⟩
          · rw [hP]; simpa using hp
          · intro k hk hp
            rw [hN] at hk
            rw [hP] at hp
            rcases hd : nots.drop k with _ | ⟨s, r⟩
            · have h1 := H.rowNil he3 hd hk
              rw [drop_nil hd hk, List.take_length] at hp
              have hEk : E4 k = eM (lexP nums names nots) := by rw [hE4, drop_nil hd hk, List.take_length, lexP, List.append_assoc]
              have hok : keysOk (lexP nums names nots) = true := by
                unfold keysOk
                rw [decide_eq_true_eq, lexP, ← List.append_assoc]
                exact hp
              rw [hok, ← hEk] at hr
              (try cbv)
              repeat' (first | (rw [h1]; (try cbv)) | fail)
              rw [hK]
              cbv
              rw [hr]
              rfl
            · obtain ⟨h1, h2, h3, h4, h5⟩ := H.rowCons he3 hm3.1 hd
              have hEk := hE4 k
              have hQ : nums.map numP ++ namesP 0 names ++ (nots.take (k + 1)).map notP = nums.map numP ++ namesP 0 names ++ (nots.take k).map notP ++ [(s, ⟨3, 0⟩)] := by
                rw [take_step _ hd, List.append_assoc _ _ [_]]
                rfl
              have hEk1 : E4 (k + 1) = eM (nums.map numP ++ namesP 0 names ++ (nots.take k).map notP ++ [(s, ⟨3, 0⟩)]) := by rw [hE4, hQ]
              have hall : lexP nums names nots = nums.map numP ++ namesP 0 names ++ (nots.take k).map notP ++ (s, ⟨3, 0⟩) :: r.map notP := by
                have := congrArg (List.map notP) (take_drop_cons hd)
                rw [lexP, this]
                simp [notP]
              rcases lookM s (nums.map numP ++ namesP 0 names ++ (nots.take k).map notP) with ⟨hq1, hq2⟩ | ⟨m, hq1, _, hq2⟩
              · rw [← hEk, ← H.look] at hq2
                have hq3 := updM s ⟨3, 0⟩ _ hq1
                rw [← hEk1, ← hEk, ← H.upd] at hq3
                (try cbv)
                repeat' (first | (rw [h1]; (try cbv)) | (rw [h2]; (try cbv)) | fail)
                refine ⟨hρ, ?_⟩
                intro tm2
                cbv
                rw [hq2]
                cbv
                exact ⟨by rw [hN]; exact h5, by rw [hP, hQ]; exact nodupK hp hq1, by rw [h3], by rw [hq3]⟩
              · rw [← hEk, ← H.look] at hq2
                have hdup : keysOk (lexP nums names nots) = false := by
                  rw [hall]
                  exact dupK hq1
                rw [hdup] at hr
                (try cbv)
                repeat' (first | (rw [h1]; (try cbv)) | (rw [h2]; (try cbv)) | fail)
                refine ⟨hρ, ?_⟩
                intro tm2
                cbv
                rw [hq2]
                cbv
                (try cbv)
                repeat' (first | (rw [hK]; (try cbv)) | fail)
                rw [hr]
                rfl
        · obtain ⟨h1, h2, h3, h4, h5⟩ := H.rowCons he2 hm2 hd
          have hx : x ∈ names := List.mem_of_getElem? (drop_cons hd).2.1
          have hxs := hm4 x hx
          obtain ⟨ex, hex⟩ : ∃ ex : List (List D), txE x ex := ⟨_, rfl⟩
          rw [← show _ = _ from hex] at h2
          (try cbv)
          repeat' (first | (rw [h1]; (try cbv)) | (rw [h2]; (try cbv)) | fail)
          obtain ⟨E3, hE3⟩ : ∃ E : Nat → List (D × List D), ∀ j, E j = eM (nums.map numP ++ namesP 0 (names.take i) ++ (x.take j).map (nameP i)) := ⟨_, fun _ => rfl⟩
          have hE30 : E2 i = E3 0 := by rw [hE2, hE3]; simp
          have hQi : names.take (i + 1) = names.take i ++ [x] := by have := take_step id hd; simpa using this
          have hli : (names.take i).length = i := by simp; omega
          have hE3n : E3 x.length = E2 (i + 1) := by
            rw [hE2, hE3, List.take_length, hQi, namesP_append, hli, Nat.zero_add]
            simp [namesP]
          rw [hE30]
          have hpi := hp
          have hKo := hK
          have hNo := hN
          have hPo := hP
          clear hp
          revert hKo hNo hPo
          generalize K = Ko
          generalize N = No
          generalize P = Po
          intro hKo hNo hPo
          clear hN N hP P
          refine loopK ?_
          intro K hK
          obtain ⟨N, hN⟩ : ∃ N, N = x.length := ⟨_, rfl⟩
          obtain ⟨P, hP⟩ : ∃ P : Nat → Prop, ∀ k, P k = (((nums.map numP ++ namesP 0 (names.take i) ++ (x.take k).map (nameP i)).map Prod.fst).Nodup) := ⟨_, fun _ => rfl⟩
          refine loopV N (fun k => [(0, .v false [.d (.yld l 5)]), (1, .v false [.d (.ro [.row 2 e1, .row 1 e2, .row 1 e3] 0)]), (5, .v false [.d (.int .i64 (Int.ofNat i))]), (28, .v false [.d (.row 1 e2)]), (29, .v false [.d (.int .i64 (len e2))]), (30, .v false [.d (.int .i64 (Int.ofNat i))]), (35, .v false [.d (.row 1 ex)]), (36, .v false [.d (.int .i64 (len ex))]), (37, .v false [.d (.int .i64 (Int.ofNat k))])]) (fun k => [(0, .blk [.d (.row 2 e1), .d (.row 1 e2), .d (.row 1 e3)]), (1, .blk [.d .map0]), (2, .blk [.d (.int .i64 0)]), (3, .map 2 (E3 k)), (4, .blk [.lmap 3]), (5, .saved tm [(2, .v false [.loc 1 0]), (3, .v false [.loc 2 0]), (7, .v false [.loc 4 0]), (52, .v false [.d (.fn 111 [] [.ro [.row 2 e1, .row 1 e2, .row 1 e3] 0])])]), (6, .lp l ρ .ready none)]) P ?_ ?_ ?_
          · exact ⟨rfl, rfl⟩
          · rw [hP]; simpa using hpi
          · intro k hk hp
            rw [hN] at hk
            rw [hP] at hp
            rcases hd3 : x.drop k with _ | ⟨s, r3⟩
            · have g1 := H.rowNil hex hd3 hk
              (try cbv)
              repeat' (first | (rw [g1]; (try cbv)) | fail)
              rw [hK]
              cbv
              have hkx := drop_nil hd3 hk
              exact ⟨by rw [hNo]; exact h5, by
                rw [hPo, hQi, namesP_append, hli, Nat.zero_add]
                rw [hkx, List.take_length] at hp
                simpa [namesP] using hp, by rw [h3], by rw [hkx, hE3n]⟩
            · obtain ⟨g1, g2, g3, g4, g5⟩ := H.rowCons hex hxs.1 hd3
              have hEk := hE3 k
              have hQ : nums.map numP ++ namesP 0 (names.take i) ++ (x.take (k + 1)).map (nameP i) = nums.map numP ++ namesP 0 (names.take i) ++ (x.take k).map (nameP i) ++ [(s, ⟨2, Int.ofNat i⟩)] := by
                rw [take_step _ hd3, List.append_assoc _ _ [_]]
                rfl
              have hEk1 : E3 (k + 1) = eM (nums.map numP ++ namesP 0 (names.take i) ++ (x.take k).map (nameP i) ++ [(s, ⟨2, Int.ofNat i⟩)]) := by rw [hE3, hQ]
              have hall : lexP nums names nots = nums.map numP ++ namesP 0 (names.take i) ++ (x.take k).map (nameP i) ++ (s, ⟨2, Int.ofNat i⟩) :: (r3.map (nameP i) ++ (namesP (i + 1) r ++ nots.map notP)) := by
                have t1 := congrArg (namesP 0) (take_drop_cons hd)
                have t2 := congrArg (List.map (nameP i)) (take_drop_cons hd3)
                rw [namesP_append, hli, Nat.zero_add, namesP, t2] at t1
                rw [lexP, t1]
                simp [nameP]
              rcases lookM s (nums.map numP ++ namesP 0 (names.take i) ++ (x.take k).map (nameP i)) with ⟨hq1, hq2⟩ | ⟨m, hq1, _, hq2⟩
              · rw [← hEk, ← H.look] at hq2
                have hq3 := updM s ⟨2, Int.ofNat i⟩ _ hq1
                rw [← hEk1, ← hEk, ← H.upd] at hq3
                (try cbv)
                repeat' (first | (rw [g1]; (try cbv)) | (rw [g2]; (try cbv)) | fail)
                refine ⟨hρ, ?_⟩
                intro tm2
                cbv
                rw [hq2]
                cbv
                exact ⟨by rw [hN]; exact g5, by rw [hP, hQ]; exact nodupK hp hq1, by rw [g3], by rw [hq3]⟩
              · rw [← hEk, ← H.look] at hq2
                have hdup : keysOk (lexP nums names nots) = false := by
                  rw [hall]
                  exact dupK hq1
                rw [hdup] at hr
                (try cbv)
                repeat' (first | (rw [g1]; (try cbv)) | (rw [g2]; (try cbv)) | fail)
                refine ⟨hρ, ?_⟩
                intro tm2
                cbv
                rw [hq2]
                cbv
                (try cbv)
                repeat' (first | (rw [hK]; (try cbv)) | (rw [hKo]; (try cbv)) | (rw [hK1]; (try cbv)) | fail)
                rw [hr]
                rfl
    · obtain ⟨h1, h2, h3, h4, h5⟩ := H.rowCons he1 hm1 hd
      obtain ⟨xt, xv⟩ := x
      have hEk := hE k
      have hEk1 : E (k + 1) = eM ((nums.take k).map numP ++ [(xt, ⟨1, xv⟩)]) := by rw [hE, take_step _ hd]; rfl
      have hQ : (nums.take (k + 1)).map numP = (nums.take k).map numP ++ [(xt, ⟨1, xv⟩)] := take_step _ hd
      have hall : lexP nums names nots = (nums.take k).map numP ++ (xt, ⟨1, xv⟩) :: (r.map numP ++ (namesP 0 names ++ nots.map notP)) := by
        have := congrArg (List.map numP) (take_drop_cons hd)
        rw [List.map_append, List.map_cons] at this
        rw [lexP, this, List.append_assoc]
        rfl
      rcases lookM xt ((nums.take k).map numP) with ⟨hq1, hq2⟩ | ⟨m, hq1, _, hq2⟩
      · rw [← hEk, ← H.look] at hq2
        have hq3 := updM xt ⟨1, xv⟩ _ hq1
        rw [← hEk1, ← hEk, ← H.upd] at hq3
        (try cbv)
        repeat' (first | (rw [h1]; (try cbv)) | (rw [h2]; (try cbv)) | fail)
        refine ⟨hρ, ?_⟩
        intro tm2
        cbv
        rw [hq2]
        cbv
        exact ⟨by rw [hN]; exact h5, by rw [hP, hQ]; exact nodupK hp hq1, by rw [h3], by rw [hq3]⟩
      · rw [← hEk, ← H.look] at hq2
        have hdup : keysOk (lexP nums names nots) = false := by
          rw [hall]
          exact dupK hq1
        rw [hdup] at hr
        (try cbv)
        repeat' (first | (rw [h1]; (try cbv)) | (rw [h2]; (try cbv)) | fail)
        refine ⟨hρ, ?_⟩
        intro tm2
        cbv
        rw [hq2]
        cbv
        (try cbv)
        repeat' (first | (rw [hK]; (try cbv)) | fail)
        rw [hr]
        rfl
end Go.Vi
