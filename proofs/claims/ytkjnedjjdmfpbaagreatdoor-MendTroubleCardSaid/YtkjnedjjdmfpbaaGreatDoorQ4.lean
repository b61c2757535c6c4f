/-
  What decisions say of each request.
-/
import Derived.Test.YtkjnedjjdmfpbaaGreatDoorQ2
import Derived.Test.YtkjnedjjdmfpbaaGreatDoorQ3
set_option linter.unusedVariables false
set_option linter.unusedSimpArgs false
set_option linter.unusedSectionVars false
namespace Go.Vi
/-- What holds when the requests of a list of indices have been decided. -/
structure DecInv (ref : List Rq → Rq → Int) (l : List Rq) (T : List Nat) (st : Dec) : Prop where
  len : st.errs.length = l.length
  each : ∀ i ∈ T, ∃ q acc, l[i]? = some q ∧ st.errs[i]? = some (ref acc q) ∧ ∀ o ∈ acc, ∃ j ∈ T, j ≠ i ∧ l[j]? = some o ∧ st.errs[j]? = some 0
  acc : ∀ o ∈ st.acc, ∃ j ∈ T, l[j]? = some o ∧ st.errs[j]? = some 0
theorem decInv_step (ref : List Rq → Rq → Int) (l : List Rq) (T : List Nat) (st : Dec) (h : DecInv ref l T st) (i : Nat) (hi : i < l.length) (hn : i ∉ T) : DecInv ref l (T ++ [i]) (stepD ref l st i) := by
  obtain ⟨h1, h2, h3⟩ := h
  have hq : l[i]? = some l[i] := List.getElem?_eq_getElem hi
  have key : ∀ c, c = ref st.acc l[i] → (∀ j ∈ T, (st.errs.set i c)[j]? = st.errs[j]?) ∧ (st.errs.set i c)[i]? = some c := fun c _ => ⟨fun j hj => List.getElem?_set_ne (fun (h : i = j) => hn (by rw [h]; exact hj)), List.getElem?_set_self (by omega)⟩
  have each : ∀ c, c = ref st.acc l[i] → ∀ k ∈ T ++ [i], ∃ q acc, l[k]? = some q ∧ (st.errs.set i c)[k]? = some (ref acc q) ∧ ∀ o ∈ acc, ∃ j ∈ T ++ [i], j ≠ k ∧ l[j]? = some o ∧ (st.errs.set i c)[j]? = some 0 := by
    intro c hc k hk
    obtain ⟨k1, k2⟩ := key c hc
    rw [List.mem_append, List.mem_singleton] at hk
    rcases hk with hk | rfl
    · obtain ⟨q, acc, a1, a2, a3⟩ := h2 k hk
      refine ⟨q, acc, a1, by rw [k1 k hk]; exact a2, fun o ho => ?_⟩
      obtain ⟨j, b1, b2, b3, b4⟩ := a3 o ho
      exact ⟨j, List.mem_append_left _ b1, b2, b3, by rw [k1 j b1]; exact b4⟩
    · refine ⟨_, st.acc, hq, by rw [k2, hc], fun o ho => ?_⟩
      obtain ⟨j, b1, b2, b3⟩ := h3 o ho
      exact ⟨j, List.mem_append_left _ b1, fun (h : j = _) => hn (by rw [← h]; exact b1), b2, by rw [k1 j b1]; exact b3⟩
  have old : ∀ c, c = ref st.acc l[i] → ∀ o ∈ st.acc, ∃ j ∈ T ++ [i], l[j]? = some o ∧ (st.errs.set i c)[j]? = some 0 := by
    intro c hc o ho
    obtain ⟨j, b1, b2, b3⟩ := h3 o ho
    exact ⟨j, List.mem_append_left _ b1, b2, by rw [(key c hc).1 j b1]; exact b3⟩
  unfold stepD
  rw [hq]
  dsimp only
  by_cases h0 : ref st.acc l[i] = 0
  · rw [if_pos h0]
    refine ⟨by simpa using h1, each 0 h0.symm, fun o ho => ?_⟩
    rw [List.mem_append, List.mem_singleton] at ho
    rcases ho with ho | rfl
    · exact old 0 h0.symm o ho
    · exact ⟨i, by simp, hq, (key 0 h0.symm).2⟩
  · rw [if_neg h0]
    exact ⟨by simpa using h1, each _ rfl, old _ rfl⟩
theorem decInv_all (ref : List Rq → Rq → Int) (l : List Rq) : ∀ (R T : List Nat) (st : Dec), DecInv ref l T st → (∀ i ∈ R, i < l.length) → (T ++ R).Nodup → DecInv ref l (T ++ R) (R.foldl (stepD ref l) st)
  | [], T, st, h, _, _ => by simpa using h
  | i :: R, T, st, h, hl, hn => by
    rw [List.foldl_cons, show T ++ i :: R = (T ++ [i]) ++ R by simp]
    refine decInv_all ref l R (T ++ [i]) _ (decInv_step ref l T st h i (hl i List.mem_cons_self) ?_) (fun j hj => hl j (List.mem_cons_of_mem _ hj)) (by simpa using hn)
    intro hi
    rw [List.nodup_append] at hn
    exact hn.2.2 i hi i List.mem_cons_self rfl
theorem ordS_nodup (l : List Rq) : (ordS (qltS l) l.length).Nodup := by
  have h := ordS_sorted l l.length (Nat.le_refl _)
  have hm := fun y => (mem_ordS (qltS l) y l.length).1
  rw [List.nodup_iff_pairwise_ne]
  refine List.Pairwise.imp_of_mem ?_ h
  rintro a b ha hb hab rfl
  have := soonI_asymm (hm a ha) (hm a ha) hab
  rw [this] at hab
  cases hab
/-- What decisions say of each request. -/
theorem decS_each (ref : List Rq → Rq → Int) (l : List Rq) (i : Nat) (hi : i < l.length) : ∃ q acc, l[i]? = some q ∧ (decS ref l).errs[i]? = some (ref acc q) ∧ ∀ o ∈ acc, ∃ j, j ≠ i ∧ l[j]? = some o ∧ (decS ref l).errs[j]? = some 0 := by
  have h := decInv_all ref l (ordS (qltS l) l.length) [] ⟨[], [], List.replicate l.length 0⟩ ⟨by simp, fun i h => by simp at h, fun o h => by simp at h⟩ (fun i h => (mem_ordS _ _ _).1 h) (by simpa using ordS_nodup l)
  obtain ⟨q, acc, h1, h2, h3⟩ := h.each i (by simpa using (mem_ordS (qltS l) i l.length).2 hi)
  exact ⟨q, acc, h1, h2, fun o ho => by obtain ⟨j, _, a, b, c⟩ := h3 o ho; exact ⟨j, a, b, c⟩⟩
theorem decS_len (ref : List Rq → Rq → Int) (l : List Rq) : (decS ref l).errs.length = l.length := by
  have := foldD_len ref l (ordS (qltS l) l.length) ⟨[], [], List.replicate l.length 0⟩
  rw [decS]
  simpa using this.2.2
theorem decS_one (ref : List Rq → Rq → Int) (q : Rq) : (decS ref [q]).errs = [ref [] q] := by
  unfold decS
  have : ordS (qltS [q]) [q].length = [0] := by
    simp [ordS, insS, posS]
  rw [this]
  simp only [List.foldl_cons, List.foldl_nil, stepD, List.getElem?_cons_zero, List.length_cons, List.length_nil]
  split
  · rename_i h; rw [h]; rfl
  · rfl
theorem meetS_symm (af ac bf bc : Int) : meetS af ac bf bc = meetS bf bc af ac := by
  unfold meetS
  by_cases h1 : ac = 0 <;> by_cases h2 : bc = 0
  · simp only [h1, h2, decide_true, Bool.and_self, cond_true]
    rw [Bool.eq_iff_iff]
    simp
    exact ⟨fun h => h.symm, fun h => h.symm⟩
  · simp [h1, h2]
  · simp [h1, h2]
  · simp only [h1, h2, decide_false, Bool.and_self, cond_false]
    rw [Bool.and_comm]
theorem alone_ne6 (L : List (ByteArray × Mrk)) (sw : List Swp) (l : List Sd) (o w : Int) (q : Rq) : aloneS L sw l o w q ≠ 6 := by
  rw [aloneS]
  simp only [firstBad]
  cases insideS l.length q.frm q.cut <;> cases properS q.by' q.cut q.put <;> cases ownS l q.frm.toNat q.cut.toNat q.by' <;> cases inR q.minute o (w64 (o + w)) <;> cases keptS L sw l q.frm.toNat q.cut.toNat q.put <;> decide
theorem alone_zero {L : List (ByteArray × Mrk)} {sw : List Swp} {l : List Sd} {o w : Int} {q : Rq} (h : aloneS L sw l o w q = 0) : insideS l.length q.frm q.cut = true ∧ properS q.by' q.cut q.put = true ∧ ownS l q.frm.toNat q.cut.toNat q.by' = true ∧ inR q.minute o (w64 (o + w)) = true ∧ keptS L sw l q.frm.toNat q.cut.toNat q.put = true := by
  rw [aloneS] at h
  simp only [firstBad] at h
  revert h
  cases insideS l.length q.frm q.cut <;> cases properS q.by' q.cut q.put <;> cases ownS l q.frm.toNat q.cut.toNat q.by' <;> cases inR q.minute o (w64 (o + w)) <;> cases keptS L sw l q.frm.toNat q.cut.toNat q.put <;> simp
/-- Each request's error: its own, or that of a request that meets one. -/
theorem errs_each (L : List (ByteArray × Mrk)) (sw : List Swp) (l : List Sd) (o w : Int) (rq : List Rq) (i : Nat) (q : Rq) (hq : rq[i]? = some q) : ∃ e, (decS (refS L sw l o w) rq).errs[i]? = some e ∧
    ((e = aloneS L sw l o w q ∧ e ≠ 6) ∨ (e = 6 ∧ aloneS L sw l o w q = 0 ∧ ∃ j p, j ≠ i ∧ rq[j]? = some p ∧ (decS (refS L sw l o w) rq).errs[j]? = some 0 ∧ meetS p.frm p.cut q.frm q.cut = true)) := by
  have hi : i < rq.length := (List.getElem?_eq_some_iff.1 hq).1
  obtain ⟨q', acc, h1, h2, h3⟩ := decS_each (refS L sw l o w) rq i hi
  rw [hq] at h1
  cases h1
  refine ⟨_, h2, ?_⟩
  rw [refS_alone]
  by_cases h0 : aloneS L sw l o w q = 0
  · rw [if_pos h0]
    by_cases hf : freeS acc q.frm q.cut = true
    · rw [if_pos hf]
      exact .inl ⟨h0.symm, by decide⟩
    · rw [if_neg hf]
      refine .inr ⟨rfl, h0, ?_⟩
      have hf2 : acc.any (fun o => meetS q.frm q.cut o.frm o.cut) = true := by
        rw [freeS] at hf
        simpa using hf
      obtain ⟨p, hp, hm⟩ := List.any_eq_true.1 hf2
      obtain ⟨j, a, b, c⟩ := h3 p hp
      exact ⟨j, p, a, b, c, by rw [meetS_symm]; exact hm⟩
  · rw [if_neg h0]
    exact .inl ⟨rfl, alone_ne6 _ _ _ _ _ _⟩
end Go.Vi
