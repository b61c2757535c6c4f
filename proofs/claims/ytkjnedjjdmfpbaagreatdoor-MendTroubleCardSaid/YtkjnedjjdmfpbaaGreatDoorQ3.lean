/-
  Contract of the reference's decisions.
-/
import Derived.Test.YtkjnedjjdmfpbaaGreatDoorP6
import Derived.Test.YtkjnedjjdmfpbaaGreatDoorQ2
set_option linter.unusedVariables false
set_option linter.unusedSimpArgs false
set_option linter.unusedSectionVars false
namespace Go.Vi
/-- Is a request taken before another one (by their indices)? -/
def soonI (l : List Rq) (i k : Nat) : Bool := match l[i]?, l[k]? with
  | some a, some b => soonS a b i k
  | _, _ => false
theorem soonS_iff (a b : Rq) (i k : Nat) : soonS a b i k = true ↔ a.minute < b.minute ∨ (a.minute = b.minute ∧ (a.by' < b.by' ∨ (a.by' = b.by' ∧ i < k))) := by
  unfold soonS
  by_cases h : a.minute = b.minute
  · by_cases h2 : a.by' = b.by'
    · simp [h, h2]
    · simp [h, h2]
  · simp [h]
theorem cmpQ_iff (a b : Rq) : cmpQ a b < 0 ↔ a.minute < b.minute ∨ (a.minute = b.minute ∧ a.by' < b.by') := by
  have hc : ∀ x y : Int, (x < y ∧ cmpS x y = -1) ∨ (y < x ∧ cmpS x y = 1) ∨ (x = y ∧ cmpS x y = 0) := by
    intro x y
    unfold cmpS
    rcases Int.lt_trichotomy x y with h | h | h
    · exact .inl ⟨h, by simp [h]⟩
    · exact .inr (.inr ⟨h, by simp [h]⟩)
    · exact .inr (.inl ⟨h, by simp [h, Int.not_lt.2 (Int.le_of_lt h)]⟩)
  unfold cmpQ
  simp only [orS]
  rcases hc a.minute b.minute with ⟨h1, h2⟩ | ⟨h1, h2⟩ | ⟨h1, h2⟩ <;> rcases hc a.by' b.by' with ⟨h3, h4⟩ | ⟨h3, h4⟩ | ⟨h3, h4⟩ <;> rw [h2, h4] <;> simp <;> omega
theorem soonI_iff {l : List Rq} {i k : Nat} (hi : i < l.length) (hk : k < l.length) : soonI l i k = true ↔ l[i].minute < l[k].minute ∨ (l[i].minute = l[k].minute ∧ (l[i].by' < l[k].by' ∨ (l[i].by' = l[k].by' ∧ i < k))) := by
  rw [soonI, List.getElem?_eq_getElem hi, List.getElem?_eq_getElem hk]
  exact soonS_iff _ _ _ _
theorem qltS_iff {l : List Rq} {i k : Nat} (hi : i < l.length) (hk : k < l.length) : qltS l i k = true ↔ l[i].minute < l[k].minute ∨ (l[i].minute = l[k].minute ∧ l[i].by' < l[k].by') := by
  rw [qltS, List.getElem?_eq_getElem hi, List.getElem?_eq_getElem hk, decide_eq_true_eq]
  exact cmpQ_iff _ _
theorem soonI_trans {l : List Rq} {i j k : Nat} (hi : i < l.length) (hj : j < l.length) (hk : k < l.length) (h1 : soonI l i j = true) (h2 : soonI l j k = true) : soonI l i k = true := by
  rw [soonI_iff hi hj] at h1
  rw [soonI_iff hj hk] at h2
  rw [soonI_iff hi hk]
  omega
theorem soonI_asymm {l : List Rq} {i j : Nat} (hi : i < l.length) (hj : j < l.length) (h1 : soonI l i j = true) : soonI l j i = false := by
  rw [Bool.eq_false_iff]
  intro h2
  rw [soonI_iff hi hj] at h1
  rw [soonI_iff hj hi] at h2
  omega
theorem soonI_total {l : List Rq} {i j : Nat} (hi : i < l.length) (hj : j < l.length) (hn : i ≠ j) : soonI l i j = true ∨ soonI l j i = true := by
  rw [soonI_iff hi hj, soonI_iff hj hi]
  omega
theorem posS_drop (lt : Nat → Nat → Bool) (x : Nat) (P : List Nat) : ∀ j, j ≤ P.length → ∀ i, posS lt x P j ≤ i → i < j → ∀ y, P[i]? = some y → lt x y = true
  | 0, _, i, _, h, _, _ => by omega
  | j + 1, hj, i, h1, h2, y, hy => by
    obtain ⟨z, hz⟩ : ∃ z, P[j]? = some z := ⟨_, List.getElem?_eq_getElem (by omega)⟩
    rw [posS, hz] at h1
    dsimp only at h1
    by_cases hl : lt x z = true
    · rw [if_pos hl] at h1
      by_cases hij : i = j
      · subst hij
        rw [hz] at hy
        cases hy
        exact hl
      · exact posS_drop lt x P j (by omega) i h1 (by omega) y hy
    · rw [if_neg hl] at h1
      omega
theorem posS_before (lt : Nat → Nat → Bool) (x : Nat) (P : List Nat) : ∀ j, j ≤ P.length → 0 < posS lt x P j → ∀ y, P[posS lt x P j - 1]? = some y → lt x y = false
  | 0, _, h, _, _ => by simp [posS] at h
  | j + 1, hj, h, y, hy => by
    obtain ⟨z, hz⟩ : ∃ z, P[j]? = some z := ⟨_, List.getElem?_eq_getElem (by omega)⟩
    rw [posS, hz] at h hy
    dsimp only at h hy
    by_cases hl : lt x z = true
    · rw [if_pos hl] at h hy
      exact posS_before lt x P j (by omega) h y hy
    · rw [if_neg hl] at h hy
      rw [Nat.add_sub_cancel, hz] at hy
      cases hy
      simpa using hl
theorem mem_insS (lt : Nat → Nat → Bool) (x y : Nat) (P : List Nat) : y ∈ insS lt x P ↔ y = x ∨ y ∈ P := by
  rw [insS, List.mem_append, List.mem_cons]
  constructor
  · rintro (h | h | h)
    · exact .inr (List.mem_of_mem_take h)
    · exact .inl h
    · exact .inr (List.mem_of_mem_drop h)
  · rintro (h | h)
    · exact .inr (.inl h)
    · rw [← List.take_append_drop (posS lt x P P.length) P, List.mem_append] at h
      rcases h with h | h
      · exact .inl h
      · exact .inr (.inr h)
theorem mem_ordS (lt : Nat → Nat → Bool) (y : Nat) : ∀ n, y ∈ ordS lt n ↔ y < n
  | 0 => by simp [ordS]
  | n + 1 => by
    rw [ordS, mem_insS, mem_ordS lt y n]
    omega
/-- They are taken in order. -/
theorem ordS_sorted (l : List Rq) : ∀ n, n ≤ l.length → (ordS (qltS l) n).Pairwise (fun i k => soonI l i k = true)
  | 0, _ => List.Pairwise.nil
  | n + 1, hn => by
    have ih := ordS_sorted l n (by omega)
    have hlt := ordS_lt (qltS l) n
    have hlen := ordS_length (qltS l) n
    rw [ordS, insS]
    generalize ordS (qltS l) n = P at ih hlt hlen
    have hple := posS_le (qltS l) n P P.length
    have hdrop := posS_drop (qltS l) n P P.length (Nat.le_refl _)
    have hbef := posS_before (qltS l) n P P.length (Nat.le_refl _)
    generalize posS (qltS l) n P P.length = p at hple hdrop hbef
    have hnl : n < l.length := by omega
    have ih2 := ih
    rw [← List.take_append_drop p P, List.pairwise_append] at ih2
    obtain ⟨i1, i2, i3⟩ := ih2
    have hd : ∀ y ∈ P.drop p, soonI l n y = true := fun y hy => by
      obtain ⟨i, hi⟩ := List.mem_iff_getElem?.1 hy
      rw [List.getElem?_drop] at hi
      have hyl := hlt y (List.mem_of_mem_drop hy)
      have hi2 : p + i < P.length := (List.getElem?_eq_some_iff.1 hi).1
      have h := hdrop (p + i) (by omega) hi2 y hi
      rw [qltS_iff hnl (by omega)] at h
      rw [soonI_iff hnl (by omega)]
      omega
    have ht : ∀ y ∈ P.take p, soonI l y n = true := fun y hy => by
      have hp0 : 0 < p := by
        rcases Nat.eq_zero_or_pos p with h | h
        · subst h; simp at hy
        · exact h
      obtain ⟨z, hz⟩ : ∃ z, P[p - 1]? = some z := ⟨_, List.getElem?_eq_getElem (by omega)⟩
      have hzl := hlt z (List.mem_of_getElem? hz)
      have hyl := hlt y (List.mem_of_mem_take hy)
      have h1 := hbef hp0 z hz
      have hzn : soonI l z n = true := by
        rw [soonI_iff (by omega) hnl]
        have h2 : ¬ qltS l n z = true := by rw [h1]; decide
        rw [qltS_iff hnl (by omega)] at h2
        omega
      obtain ⟨i, hi⟩ := List.mem_iff_getElem?.1 hy
      have hi0 := (List.getElem?_eq_some_iff.1 hi).1
      rw [List.length_take] at hi0
      rw [List.getElem?_take_of_lt (by omega)] at hi
      by_cases hip : i = p - 1
      · subst hip
        rw [hz] at hi
        cases hi
        exact hzn
      · refine soonI_trans (by omega) (by omega) hnl ?_ hzn
        have h5 := List.pairwise_iff_getElem.1 ih i (p - 1) (by omega) (by omega) (by omega)
        rw [(List.getElem?_eq_some_iff.1 hi).2, (List.getElem?_eq_some_iff.1 hz).2] at h5
        exact h5
    rw [List.pairwise_append]
    refine ⟨i1, ?_, ?_⟩
    · rw [List.pairwise_cons]
      exact ⟨hd, i2⟩
    · intro a ha b hb
      rw [List.mem_cons] at hb
      rcases hb with rfl | hb
      · exact ht a ha
      · exact i3 a ha b hb
/-- The first one of those that are not yet done, among the first j. -/
def scanS (soon : Nat → Nat → Bool) (done : Nat → Bool) : Nat → Int
  | 0 => -1
  | j + 1 => if (!done j && (decide (scanS soon done j < 0) || soon j (scanS soon done j).toNat)) = true then (j : Int) else scanS soon done j
theorem scanS_lt (soon : Nat → Nat → Bool) (done : Nat → Bool) : ∀ j, -1 ≤ scanS soon done j ∧ scanS soon done j < j
  | 0 => by simp [scanS]
  | j + 1 => by
    have h := scanS_lt soon done j
    unfold scanS
    split <;> omega
theorem scanS_min (l : List Rq) (done : Nat → Bool) : ∀ j, j ≤ l.length → (scanS (soonI l) done j < 0 ∧ ∀ i, i < j → done i = true) ∨ (∃ m : Nat, scanS (soonI l) done j = m ∧ m < j ∧ done m = false ∧ ∀ i, i < j → done i = false → i = m ∨ soonI l m i = true)
  | 0, _ => .inl ⟨by simp [scanS], fun i h => by omega⟩
  | j + 1, hj => by
    rcases scanS_min l done j (by omega) with ⟨h1, h2⟩ | ⟨m, h1, h2, h3, h4⟩
    · cases hd : done j
      · refine .inr ⟨j, ?_, by omega, hd, ?_⟩
        · unfold scanS
          rw [if_pos (by rw [hd, decide_eq_true h1]; rfl)]
        · intro i hi hdi
          by_cases hij : i = j
          · exact .inl hij
          · have := h2 i (by omega)
            rw [this] at hdi
            cases hdi
      · refine .inl ⟨?_, ?_⟩
        · unfold scanS
          rw [if_neg (by rw [hd]; simp)]
          exact h1
        · intro i hi
          by_cases hij : i = j
          · subst hij; exact hd
          · exact h2 i (by omega)
    · have hns : ¬ scanS (soonI l) done j < 0 := by omega
      cases hd : done j
      · cases hs : soonI l j m
        · refine .inr ⟨m, ?_, by omega, h3, ?_⟩
          · unfold scanS
            rw [if_neg (by rw [hd, decide_eq_false hns, h1, Int.toNat_natCast, hs]; decide)]
            exact h1
          · intro i hi hdi
            by_cases hij : i = j
            · subst hij
              rcases soonI_total (l := l) (i := m) (j := i) (by omega) (by omega) (by omega) with h | h
              · exact .inr h
              · rw [hs] at h; cases h
            · exact h4 i (by omega) hdi
        · refine .inr ⟨j, ?_, by omega, hd, ?_⟩
          · unfold scanS
            rw [if_pos (by rw [hd, h1, Int.toNat_natCast, hs]; simp)]
          · intro i hi hdi
            by_cases hij : i = j
            · exact .inl hij
            · rcases h4 i (by omega) hdi with rfl | h
              · exact .inr hs
              · exact .inr (soonI_trans (by omega) (by omega) (by omega) hs h)
      · refine .inr ⟨m, ?_, by omega, h3, ?_⟩
        · unfold scanS
          rw [if_neg (by rw [hd]; simp)]
          exact h1
        · intro i hi hdi
          by_cases hij : i = j
          · subst hij; rw [hd] at hdi; cases hdi
          · exact h4 i (by omega) hdi
/-- Selection takes them in the same order. -/
theorem scanS_eq (l : List Rq) (k i : Nat) (hk : (ordS (qltS l) l.length)[k]? = some i) : scanS (soonI l) (fun j => decide (j ∈ (ordS (qltS l) l.length).take k)) l.length = i := by
  have hs := ordS_sorted l l.length (Nat.le_refl _)
  have hm := fun y => mem_ordS (qltS l) y l.length
  generalize ordS (qltS l) l.length = T at hk hs hm
  have hkl := (List.getElem?_eq_some_iff.1 hk).1
  have hki := (List.getElem?_eq_some_iff.1 hk).2
  have hil : i < l.length := (hm i).1 (List.mem_of_getElem? hk)
  have hni : i ∉ T.take k := by
    intro h
    obtain ⟨a, ha⟩ := List.mem_iff_getElem?.1 h
    have ha0 := (List.getElem?_eq_some_iff.1 ha).1
    rw [List.length_take] at ha0
    rw [List.getElem?_take_of_lt (by omega)] at ha
    have h5 := List.pairwise_iff_getElem.1 hs a k (by omega) hkl (by omega)
    rw [(List.getElem?_eq_some_iff.1 ha).2, hki] at h5
    have := soonI_asymm hil hil h5
    rw [this] at h5
    cases h5
  rcases scanS_min l (fun j => decide (j ∈ T.take k)) l.length (Nat.le_refl _) with ⟨h1, h2⟩ | ⟨m, h1, h2, h3, h4⟩
  · exact absurd (of_decide_eq_true (h2 i hil)) hni
  · rw [h1]
    congr 1
    have hmT := (hm m).2 h2
    have hmn : m ∉ T.take k := of_decide_eq_false h3
    obtain ⟨a, ha⟩ := List.mem_iff_getElem?.1 hmT
    have ha0 := (List.getElem?_eq_some_iff.1 ha).1
    have hak : k ≤ a := by
      rcases Nat.lt_or_ge a k with h | h
      · exact absurd (List.mem_iff_getElem?.2 ⟨a, by rw [List.getElem?_take_of_lt h]; exact ha⟩) hmn
      · exact h
    rcases h4 i hil (decide_eq_false hni) with h | h
    · exact h.symm
    · by_cases hak2 : a = k
      · subst hak2
        rw [hk] at ha
        cases ha
        rfl
      · have h5 := List.pairwise_iff_getElem.1 hs k a hkl ha0 (by omega)
        rw [hki, (List.getElem?_eq_some_iff.1 ha).2] at h5
        have := soonI_asymm hil h2 h5
        rw [this] at h
        cases h
end Go.Vi
namespace Go.Vi
open Go.Proofs
set_option maxRecDepth 100000
set_option linter.unusedVariables false
set_option linter.unusedSimpArgs false
theorem setB (M : List Bool) (j : Nat) (y : Bool) (hj : j < M.length) : prims.setEl (M.map fun e => [D.bool e]) (j : Int) 0 (.bool y) = some ((M.set j y).map fun e => [D.bool e]) := by
  have h0 : (0 : Int) ≤ (j : Int) := Int.natCast_nonneg _
  simp only [prims]
  rw [if_pos h0, Int.toNat_natCast, List.getElem?_map, List.getElem?_eq_getElem hj]
  simp [List.map_set]
theorem doneSet (T : List Nat) (n k i : Nat) (hk : T[k]? = some i) (hi : i < n) : ((List.range n).map fun j => decide (j ∈ T.take k)).set i true = (List.range n).map fun j => decide (j ∈ T.take (k + 1)) := by
  apply List.ext_getElem?
  intro a
  rw [List.getElem?_set, List.getElem?_map, List.getElem?_map, List.take_add_one, hk]
  by_cases ha : i = a
  · subst ha
    rw [if_pos rfl, if_pos (by simpa using hi)]
    simp [hi]
  · rw [if_neg ha]
    by_cases han : a < n
    · simp [han, Ne.symm ha]
    · rw [List.getElem?_eq_none (by simpa using han)]
      rfl
set_option maxHeartbeats 4000000 in
theorem g39a (e1 e2 e3 se we qe : List (List D)) (o w : Int) (l : List Rq) (hq : rqE l qe) (hl : l.length ≤ 25) (ref : List Rq → Rq → Int) (alone : Rq → Int)
    (href : ∀ acc q, ref acc q = if alone q = 0 then (if freeS acc q.frm q.cut = true then 0 else 6) else alone q)
    (h63 : ∀ q ∈ l, GG 63 [(true, [.row 2 e1, .row 1 e2, .row 1 e3]), (false, [.row 3 se]), (true, [.row 2 we, .int .i64 o, .int .i64 w]), (true, rqD q)] (.one (false, [.int .i64 (alone q)]))) :
    GG 39 [(true, [.row 2 e1, .row 1 e2, .row 1 e3]), (false, [.row 3 se]), (true, [.row 2 we, .int .i64 o, .int .i64 w]), (false, [.row 5 qe])] (.one (false, [.row 1 ((decS ref l).errs.map fun e => [.int .i64 e])])) := by
  have hlen := map_len hq
  have h62 : ∀ (i k : Nat) (a b : Rq), l[i]? = some a → l[k]? = some b → GG 62 [(false, [.row 5 qe]), (false, [.int .i64 i]), (false, [.int .i64 k])] (.one (false, [.bool (soonS a b i k)])) := fun i k a b ha hb => g62 l qe hq i k a b ha hb
  obtain ⟨n, hn⟩ : ∃ n, n = l.length := ⟨_, rfl⟩
  obtain ⟨T, hT⟩ : ∃ T, T = ordS (qltS l) n := ⟨_, rfl⟩
  have hTn : T.length = n := by rw [hT, ordS_length]
  have hTlt : ∀ i ∈ T, i < n := fun i hi => by rw [hT] at hi; exact ordS_lt _ _ i hi
  refine start c39 rfl ?_
  intro r' hr G hG hGW lt le eq add sub mul quo rem conv strEq strLt strCat strLen strAt strCut bytes ofBytes len nth cut fits app rep setEl look upd ne strNe H
  have hln : len qe = Int.ofNat n := by rw [H.len, hlen, hn]; rfl
  obtain ⟨Dn, hDn⟩ : ∃ A : Nat → List (List D), ∀ k, A k = ((List.range n).map fun j => decide (j ∈ T.take k)).map fun e => [D.bool e] := ⟨_, fun _ => rfl⟩
  obtain ⟨st, hst⟩ : ∃ s : Nat → Dec, ∀ k, s k = (T.take k).foldl (stepD ref l) ⟨[], [], List.replicate n 0⟩ := ⟨_, fun _ => rfl⟩
  obtain ⟨Ea, hEa⟩ : ∃ A : Nat → List (List D), ∀ k, A k = (st k).acc.map rqD := ⟨_, fun _ => rfl⟩
  obtain ⟨Er, hEr⟩ : ∃ A : Nat → List (List D), ∀ k, A k = (st k).errs.map fun e => [.int .i64 e] := ⟨_, fun _ => rfl⟩
  have hst0 : st 0 = ⟨[], [], List.replicate n 0⟩ := by rw [hst]; rfl
  have hE0 : Ea 0 = [] := by rw [hEa, hst0]; rfl
  have hrep1 : rep 8 (len qe) [.int .i64 0] = some (Er 0) := by
    rw [H.rep, H.len, hlen, hEr, hst0, hn]
    simp only [prims]
    rw [if_pos (by omega)]
    simp
  have hrep2 : rep 1 (len qe) [.bool false] = some (Dn 0) := by
    rw [H.rep, H.len, hlen, hDn, ← hn]
    simp only [prims]
    rw [if_pos (by omega)]
    congr 1
    apply List.ext_getElem
    · simp
    · intro a h1 h2
      simp
  have hbnd : ∀ k, k ≤ n → (st k).acc.length ≤ k ∧ (st k).errs.length = n := by
    intro k hk
    have := foldD_len ref l (T.take k) ⟨[], [], List.replicate n 0⟩
    rw [← hst] at this
    simp only [List.length_take, List.length_nil, List.length_replicate] at this
    omega
  (try cbv)
  repeat' (first | (rw [hrep1]; (try cbv)) | (rw [hrep2]; (try cbv)) | fail)
  refine loopK ?_
  intro K hK
  obtain ⟨N, hN⟩ : ∃ N, N = n := ⟨_, rfl⟩
  obtain ⟨P, hP⟩ : ∃ P : Nat → Prop, ∀ k, P k = (True) := ⟨_, fun _ => rfl⟩
  refine loopV N (fun k => [(1, .v false [.d (.row 3 se)]), (3, .v false [.d (.row 5 qe)]), (4, .v false [.loc 0 0]), (6, .v false [.loc 1 0]), (9, .v false [.own 3]), (10, .v false [.own 4]), (11, .v false [.own 5]), (12, .v false [.d (.int .i64 (Int.ofNat k))])]) (fun k => [(0, .blk [.d (.row 2 e1), .d (.row 1 e2), .d (.row 1 e3)]), (1, .blk [.d (.row 2 we), .d (.int .i64 o), .d (.int .i64 w)]), (2, .arr 3 1 []), (3, .arr 3 1 (Er k)), (4, .arr 4 1 (Dn k)), (5, .arr 73 5 (Ea k))]) P ?_ ?_ ?_
  · rw [hE0]; exact ⟨rfl, rfl⟩
  · rw [hP]; trivial
  intro k0 hk0 _
  rw [hN] at hk0
  by_cases hkn : k0 < n
  rotate_left
  · have g1 : lt (Int.ofNat k0) (len qe) = false := by rw [hln, H.lt]; exact decide_eq_false (fun h => hkn (Int.ofNat_lt.1 h))
    have hkn' : k0 = n := by omega
    have hfin : st n = decS ref l := by rw [hst, decS, hT, hn, List.take_of_length_le (by rw [ordS_length]; exact Nat.le_refl _)]
    (try cbv)
    repeat' (first | (rw [g1]; (try cbv)) | fail)
    rw [hK]
    cbv
    rw [hr, hEr, hkn', hfin]
  have g1 : lt (Int.ofNat k0) (len qe) = true := by rw [hln, H.lt]; exact decide_eq_true (Int.ofNat_lt.2 hkn)
  have g3 := H.inc hkn (Nat.le_trans (Nat.le_of_eq hn) (Nat.le_trans hl (by decide)))
  obtain ⟨i, hi⟩ : ∃ i, T[k0]? = some i := ⟨_, List.getElem?_eq_getElem (by rw [hTn]; exact hkn)⟩
  have hin : i < n := hTlt i (List.mem_of_getElem? hi)
  obtain ⟨q, hqi⟩ : ∃ q, l[i]? = some q := ⟨_, List.getElem?_eq_getElem (by omega)⟩
  have hqm : q ∈ l := List.mem_of_getElem? hqi
  obtain ⟨Sc, hSc⟩ : ∃ S : Nat → Int, ∀ j, S j = scanS (soonI l) (fun j => decide (j ∈ T.take k0)) j := ⟨_, fun _ => rfl⟩
  have hSn : Sc n = Int.ofNat i := by rw [hSc, hT, hn]; exact scanS_eq l k0 i (by rw [← hn, ← hT]; exact hi)
  have hSc0 : Sc 0 = -1 := by rw [hSc]; rfl
  generalize Int.ofNat k0 = ik at g1 g3 ⊢
  (try cbv)
  repeat' (first | (rw [g1]; (try cbv)) | fail)
  refine loopK ?_
  intro K2 hK2
  obtain ⟨N2, hN2⟩ : ∃ N, N = n := ⟨_, rfl⟩
  obtain ⟨P2, hP2⟩ : ∃ P : Nat → Prop, ∀ k, P k = (True) := ⟨_, fun _ => rfl⟩
  refine loopV N2 (fun k => [(1, .v false [.d (.row 3 se)]), (3, .v false [.d (.row 5 qe)]), (4, .v false [.loc 0 0]), (6, .v false [.loc 1 0]), (9, .v false [.own 3]), (10, .v false [.own 4]), (11, .v false [.own 5]), (12, .v false [.d (.int .i64 ik)]), (13, .v false [.d (.int .i64 (Sc k))]), (14, .v false [.d (.int .i64 (Int.ofNat k))])]) (fun k => [(0, .blk [.d (.row 2 e1), .d (.row 1 e2), .d (.row 1 e3)]), (1, .blk [.d (.row 2 we), .d (.int .i64 o), .d (.int .i64 w)]), (2, .arr 3 1 []), (3, .arr 3 1 (Er k0)), (4, .arr 4 1 (Dn k0)), (5, .arr 73 5 (Ea k0))]) P2 ?_ ?_ ?_
  · rw [hSc0]; exact ⟨rfl, rfl⟩
  · rw [hP2]; trivial
  intro j hj _
  rw [hN2] at hj
  by_cases hjn : j < n
  · have f1 : lt (Int.ofNat j) (len qe) = true := by rw [hln, H.lt]; exact decide_eq_true (Int.ofNat_lt.2 hjn)
    have f3 := H.inc hjn (Nat.le_trans (Nat.le_of_eq hn) (Nat.le_trans hl (by decide)))
    have f4 : nth (Dn k0) (Int.ofNat j) = some [.bool (decide (j ∈ T.take k0))] := by
      rw [H.nth, if_pos (show (0 : Int) ≤ Int.ofNat j from Int.natCast_nonneg _), hDn]
      show ((((List.range n).map fun j => decide (j ∈ T.take k0)).map fun e => [D.bool e])[j]?) = _
      simp [hjn]
    have hsucc : Sc (j + 1) = if (!decide (j ∈ T.take k0) && (decide (Sc j < 0) || soonI l j (Sc j).toNat)) = true then (j : Int) else Sc j := by rw [hSc, hSc, scanS]
    have hSb := scanS_lt (soonI l) (fun j => decide (j ∈ T.take k0)) j
    rw [← hSc] at hSb
    generalize decide (j ∈ T.take k0) = dj at f4 hsucc
    cases dj
    · cases f5 : lt (Sc j) 0
      · have f6 : ¬ Sc j < 0 := of_decide_eq_false (by rw [← H.lt]; exact f5)
        obtain ⟨m, hm2⟩ : ∃ m : Nat, Sc j = Int.ofNat m := ⟨(Sc j).toNat, by show Sc j = (((Sc j).toNat : Nat) : Int); omega⟩
        have hmn : m < n := by
          have : (Int.ofNat m : Int) = (m : Int) := rfl
          omega
        obtain ⟨a, ha⟩ : ∃ a, l[j]? = some a := ⟨_, List.getElem?_eq_getElem (by omega)⟩
        obtain ⟨b, hb⟩ : ∃ b, l[m]? = some b := ⟨_, List.getElem?_eq_getElem (by omega)⟩
        have hcall := h62 j m a b ha hb
        have hso : soonI l j (Sc j).toNat = soonS a b j m := by
          rw [hm2, show (Int.ofNat m).toNat = m from rfl, soonI, ha, hb]
        rw [decide_eq_false f6, hso] at hsucc
        have hcall : GG 62 [(false, [.row 5 qe]), (false, [.int .i64 (Int.ofNat j)]), (false, [.int .i64 (Sc j)])] (.one (false, [.bool (soonS a b j m)])) := by rw [hm2]; exact hcall
        generalize soonS a b j m = sb at hcall hsucc
        clear hm2 hso hSb f6
        cases sb
        · (try cbv)
          repeat' (first | (rw [f1]; (try cbv)) | (rw [f4]; (try cbv)) | (rw [f5]; (try cbv)) | ((refine callB (hG _ _ _ hcall) ?_; intro b hb; subst hb); (try cbv)) | fail)
          exact ⟨by rw [hN2]; exact hjn, by rw [hP2]; trivial, by rw [f3, hsucc]; rfl, trivial⟩
        · (try cbv)
          repeat' (first | (rw [f1]; (try cbv)) | (rw [f4]; (try cbv)) | (rw [f5]; (try cbv)) | ((refine callB (hG _ _ _ hcall) ?_; intro b hb; subst hb); (try cbv)) | fail)
          exact ⟨by rw [hN2]; exact hjn, by rw [hP2]; trivial, by rw [f3, hsucc]; rfl, trivial⟩
      · have f6 : Sc j < 0 := of_decide_eq_true (by rw [← H.lt]; exact f5)
        rw [decide_eq_true f6] at hsucc
        clear hSb f6
        (try cbv)
        repeat' (first | (rw [f1]; (try cbv)) | (rw [f4]; (try cbv)) | (rw [f5]; (try cbv)) | fail)
        exact ⟨by rw [hN2]; exact hjn, by rw [hP2]; trivial, by rw [f3, hsucc]; rfl, trivial⟩
    · clear hSb
      (try cbv)
      repeat' (first | (rw [f1]; (try cbv)) | (rw [f4]; (try cbv)) | fail)
      exact ⟨by rw [hN2]; exact hjn, by rw [hP2]; trivial, by rw [f3, hsucc]; rfl, trivial⟩
  have hjn' : j = n := by omega
  have f1 : lt (Int.ofNat j) (len qe) = false := by rw [hln, H.lt]; exact decide_eq_false (fun h => hjn (Int.ofNat_lt.1 h))
  rw [hjn', hSn]
  rw [hjn'] at f1
  obtain ⟨hb1, hb3⟩ := hbnd k0 hk0
  have g4 : nth qe (Int.ofNat i) = some (rqD q) := by
    rw [H.nth, if_pos (show (0 : Int) ≤ Int.ofNat i from Int.natCast_nonneg _), show qe = l.map rqD from hq]
    show (l.map rqD)[i]? = _
    rw [List.getElem?_map, hqi]
    rfl
  have hc := h63 q hqm
  have hs1 : st (k0 + 1) = stepD ref l (st k0) i := by rw [hst, hst, List.take_add_one, hi]; simp
  rw [stepD, hqi] at hs1
  dsimp only at hs1
  have hil : i < (st k0).errs.length := by omega
  have g5 : ∃ v, nth (Dn k0) (Int.ofNat i) = some v := by
    rw [H.nth, if_pos (show (0 : Int) ≤ Int.ofNat i from Int.natCast_nonneg _), hDn]
    show ∃ v, ((((List.range n).map fun j => decide (j ∈ T.take k0)).map fun e => [D.bool e])[i]?) = some v
    simp [hin]
  obtain ⟨v5, g5⟩ := g5
  have g6 : setEl (Dn k0) (Int.ofNat i) 0 (.bool true) = some (Dn (k0 + 1)) := by
    rw [H.setEl, hDn, hDn, ← doneSet T n k0 i hi hin]
    exact setB _ i true (by simpa using hin)
  obtain ⟨val, hval⟩ : ∃ v : Nat → Int, ∀ j, v j = if alone q = 0 ∧ ((st k0).acc.take j).any (fun o => meetS q.frm q.cut o.frm o.cut) = true then 6 else alone q := ⟨_, fun _ => rfl⟩
  obtain ⟨Vr, hVr⟩ : ∃ A : Nat → List (List D), ∀ j, A j = ((st k0).errs.set i (val j)).map fun e => [.int .i64 e] := ⟨_, fun _ => rfl⟩
  have hval0 : val 0 = alone q := by rw [hval, if_neg (by simp)]
  have g7 : ∃ v, nth (Er k0) (Int.ofNat i) = some v := by
    rw [H.nth, if_pos (show (0 : Int) ≤ Int.ofNat i from Int.natCast_nonneg _), hEr]
    show ∃ v, (((st k0).errs).map fun e => [D.int .i64 e])[i]? = some v
    rw [List.getElem?_map, List.getElem?_eq_getElem hil]
    exact ⟨_, rfl⟩
  obtain ⟨v7, g7⟩ := g7
  have g8 : setEl (Er k0) (Int.ofNat i) 0 (.int .i64 (alone q)) = some (Vr 0) := by
    rw [H.setEl, hEr, hVr, hval0]
    exact setI _ i _ hil
  have g9 : ∀ j, nth (Vr j) (Int.ofNat i) = some [.int .i64 (val j)] := fun j => by
    rw [H.nth, if_pos (show (0 : Int) ≤ Int.ofNat i from Int.natCast_nonneg _), hVr]
    show (((st k0).errs.set i (val j)).map fun e => [D.int .i64 e])[i]? = _
    rw [List.getElem?_map, List.getElem?_set_self hil]
    rfl
  have g10 : ∀ j, val (j + 1) = 6 → setEl (Vr j) (Int.ofNat i) 0 (.int .i64 6) = some (Vr (j + 1)) := fun j hj => by
    rw [H.setEl, hVr, hVr, hj]
    have := setI ((st k0).errs.set i (val j)) i 6 (by simpa using hil)
    rw [List.set_set] at this
    exact this
  have hea : (Ea k0).length = (st k0).acc.length := by rw [hEa]; simp
  have hlea : len (Ea k0) = Int.ofNat (st k0).acc.length := by rw [H.len, hea]; rfl
  have h33 : ∀ j a, (st k0).acc[j]? = some a → nth (Ea k0) (Int.ofNat j) = some (rqD a) := fun j a h => by
    rw [H.nth, if_pos (show (0 : Int) ≤ Int.ofNat j from Int.natCast_nonneg _), hEa]
    show ((st k0).acc.map rqD)[j]? = _
    rw [List.getElem?_map, h]
    rfl
  have hvs : ∀ j a, (st k0).acc[j]? = some a → val (j + 1) = if val j = 0 ∧ meetS q.frm q.cut a.frm a.cut = true then 6 else val j := fun j a h => by
    rw [hval, hval, List.take_add_one, h, List.any_append]
    by_cases h1 : alone q = 0
    · cases ((st k0).acc.take j).any (fun o => meetS q.frm q.cut o.frm o.cut) <;> cases h3 : meetS q.frm q.cut a.frm a.cut <;> simp [h1, h3]
    · simp [h1]
  have hvm : val (st k0).acc.length = ref (st k0).acc q := by
    rw [hval, href, List.take_length, freeS]
    by_cases h1 : alone q = 0
    · cases ((st k0).acc).any (fun o => meetS q.frm q.cut o.frm o.cut) <;> simp [h1]
    · simp [h1]
  have hf1 : ∀ x, fits 56 (app (Ea k0) [x]) = true := fun x => H.fitsLe (by rw [H.app]; simp; omega) (by decide)
  obtain ⟨m, hmm⟩ : ∃ m, m = (st k0).acc.length := ⟨_, rfl⟩
  rw [← hmm] at hvm hlea hb1
  have hEr1 : Er (k0 + 1) = Vr m := by
    rw [hEr, hVr, hs1, hvm]
    split
    · rename_i h; rw [h]
    · rfl
  have hEa1 : val m = 0 → Ea (k0 + 1) = app (Ea k0) [rqD q] := fun h => by
    rw [hvm] at h
    rw [hEa, hEa, hs1, if_pos h, H.app]
    simp
  have hEa2 : val m ≠ 0 → Ea (k0 + 1) = Ea k0 := fun h => by
    rw [hvm] at h
    rw [hEa, hEa, hs1, if_neg h]
  have hEr1' := hEr1
  obtain ⟨Q0, hQ0⟩ : ∃ Q, Q = rqD q := ⟨_, rfl⟩
  have hmeet : ∀ a : Rq, GG 33 [(true, rqD q), (true, rqD a)] (.one (false, [.bool (meetS q.frm q.cut a.frm a.cut)])) := fun a => g33 _ _ _ _ _ _ _ _ _ _
  have hVV : ∀ a b, val a = val b → Vr a = Vr b := fun a b h => by rw [hVr, hVr, h]
  clear hs1 hil hb3 hval hVr hval0 hea hf1
  have hf1 : ∀ x, fits 56 (app (Ea k0) [x]) = true := fun x => H.fitsLe (by rw [H.app, hEa]; simp; omega) (by decide)
  obtain ⟨ii, hii⟩ : ∃ ii, ii = Int.ofNat i := ⟨_, rfl⟩
  rw [← hii]
  rw [← hii] at g4 g5 g6 g7 g8 g9 g10
  clear hii hSn hSc hSc0
  obtain ⟨qb, qm, qf, qc, qp⟩ := q
  dsimp only at hvs hmeet
  simp only [rqD, putD] at g4 hc hEa1 hmeet
  generalize (qp.map fun s => [D.str s]) = qpd at g4 hc hEa1 hmeet
  generalize alone ⟨qb, qm, qf, qc, qp⟩ = al at hc g8
  (try cbv)
  repeat' (first | (rw [f1]; (try cbv)) | (rw [hK2]; (try cbv)) | (rw [g5]; (try cbv)) | (rw [g6]; (try cbv)) | (rw [g4]; (try cbv)) | ((refine callI (hG _ _ _ hc) ?_; intro b hb; subst hb); (try cbv)) | (rw [g7]; (try cbv)) | (rw [g8]; (try cbv)) | fail)
  refine loopK ?_
  intro K4 hK4
  obtain ⟨N4, hN4⟩ : ∃ N, N = m := ⟨_, rfl⟩
  obtain ⟨P4, hP4⟩ : ∃ P : Nat → Prop, ∀ k, P k = (True) := ⟨_, fun _ => rfl⟩
  refine loopV N4 (fun k => [(1, .v false [.d (.row 3 se)]), (3, .v false [.d (.row 5 qe)]), (4, .v false [.loc 0 0]), (6, .v false [.loc 1 0]), (9, .v false [.own 3]), (10, .v false [.own 4]), (11, .v false [.own 5]), (12, .v false [.d (.int .i64 ik)]), (13, .v false [.d (.int .i64 ii)]), (15, .v false [.loc 6 0]), (16, .v false [.d (.int .i64 (Int.ofNat k))])]) (fun k => [(0, .blk [.d (.row 2 e1), .d (.row 1 e2), .d (.row 1 e3)]), (1, .blk [.d (.row 2 we), .d (.int .i64 o), .d (.int .i64 w)]), (2, .arr 3 1 []), (3, .arr 3 1 (Vr k)), (4, .arr 4 1 (Dn (k0 + 1))), (5, .arr 73 5 (Ea k0)), (6, .blk [.d (.int .i64 qb), .d (.int .i64 qm), .d (.int .i64 qf), .d (.int .i64 qc), .d (.row 1 qpd)]), (7, .arr 9 1 [])]) P4 ?_ ?_ ?_
  · exact ⟨rfl, rfl⟩
  · rw [hP4]; trivial
  intro j4 hj4 _
  rw [hN4] at hj4
  have h9 := g9 j4
  by_cases hjm : j4 < m
  · have e1 : lt (Int.ofNat j4) (len (Ea k0)) = true := by rw [hlea, H.lt]; exact decide_eq_true (Int.ofNat_lt.2 hjm)
    have e3 := H.inc hjm (Nat.le_trans hb1 (Nat.le_trans hk0 (Nat.le_trans (Nat.le_of_eq hn) (Nat.le_trans hl (by decide)))))
    obtain ⟨a, ha⟩ : ∃ a, (st k0).acc[j4]? = some a := ⟨_, List.getElem?_eq_getElem (by omega)⟩
    have e4 := h33 j4 a ha
    have e5 := hmeet a
    have e6 := hvs j4 a ha
    have e10 := g10 j4
    have hVs := hVV (j4 + 1) j4
    obtain ⟨ab, am, af, ac, ap⟩ := a
    dsimp only at e6 e5
    simp only [rqD, putD] at e4 e5
    generalize (ap.map fun s => [D.str s]) = apd at e4 e5
    generalize meetS qf qc af ac = mb at e5 e6
    cases e7 : eq (val j4) 0
    · have e8 : val j4 ≠ 0 := of_decide_eq_false (by rw [← H.eq]; exact e7)
      rw [if_neg (by simp [e8])] at e6
      (try cbv)
      repeat' (first | (rw [e1]; (try cbv)) | (rw [h9]; (try cbv)) | (rw [e7]; (try cbv)) | fail)
      exact ⟨by rw [hN4]; exact hjm, by rw [hP4]; trivial, by rw [e3], by rw [hVs e6]⟩
    · have e8 : val j4 = 0 := of_decide_eq_true (by rw [← H.eq]; exact e7)
      cases mb
      · rw [if_neg (by simp)] at e6
        (try cbv)
        repeat' (first | (rw [e1]; (try cbv)) | (rw [h9]; (try cbv)) | (rw [e7]; (try cbv)) | (rw [e4]; (try cbv)) | ((refine callB (hG _ _ _ e5) ?_; intro b hb; subst hb); (try cbv)) | fail)
        exact ⟨by rw [hN4]; exact hjm, by rw [hP4]; trivial, by rw [e3], by rw [hVs e6]⟩
      · rw [if_pos ⟨e8, rfl⟩] at e6
        have e11 := e10 e6
        (try cbv)
        repeat' (first | (rw [e1]; (try cbv)) | (rw [h9]; (try cbv)) | (rw [e7]; (try cbv)) | (rw [e4]; (try cbv)) | ((refine callB (hG _ _ _ e5) ?_; intro b hb; subst hb); (try cbv)) | (rw [e11]; (try cbv)) | fail)
        exact ⟨by rw [hN4]; exact hjm, by rw [hP4]; trivial, by rw [e3], trivial⟩
  · have hjm' : j4 = m := by omega
    have e1 : lt (Int.ofNat j4) (len (Ea k0)) = false := by rw [hlea, H.lt]; exact decide_eq_false (fun h => hjm (Int.ofNat_lt.1 h))
    rw [hjm'] at e1 h9 ⊢
    cases e7 : eq (val m) 0
    · have e8 : val m ≠ 0 := of_decide_eq_false (by rw [← H.eq]; exact e7)
      have e9 := hEa2 e8
      (try cbv)
      repeat' (first | (rw [e1]; (try cbv)) | (rw [hK4]; (try cbv)) | (rw [h9]; (try cbv)) | (rw [e7]; (try cbv)) | fail)
      exact ⟨by rw [hN]; exact hkn, by rw [hP]; trivial, by rw [g3], by rw [hEr1, e9]⟩
    · have e8 : val m = 0 := of_decide_eq_true (by rw [← H.eq]; exact e7)
      have e9 := hEa1 e8
      (try cbv)
      repeat' (first | (rw [e1]; (try cbv)) | (rw [hK4]; (try cbv)) | (rw [h9]; (try cbv)) | (rw [e7]; (try cbv)) | (refine ⟨(hf1 _), ?_⟩; (try cbv)) | (refine ⟨lenOne rfl, ?_⟩; (try cbv)) | fail)
      exact ⟨by rw [hN]; exact hkn, by rw [hP]; trivial, by rw [g3], by rw [hEr1, e9]⟩
end Go.Vi
