/-
  The trouble between two lists of marks, plainly.
-/
import Derived.Test.YtkjnedjjdmfpbaaGreatDoorP7
set_option linter.unusedVariables false
set_option linter.unusedSimpArgs false
set_option linter.unusedSectionVars false
namespace Go.Vi
open Go.Proofs
/-- An empty list is one of any elements. -/
theorem row0_any {M : Nat → Prop} {w : World} {z z' : Nat} {v : Value} (h : RD M w (.row z []) v) : RD M w (.row z' []) v := by
  cases h with
  | rowE _ a cap => exact .rowE _ a cap
  | row _ _ ad cap us hs hc hb hm hr hd => exact .rowE _ _ _
theorem all2_row0 {M : Nat → Prop} {w : World} {z z' : Nat} : ∀ {pre post : List DV} {vs : List Value}, All2 (RDV M w) (pre ++ (false, [.row z []]) :: post) vs → All2 (RDV M w) (pre ++ (false, [.row z' []]) :: post) vs
  | [], post, v :: vs, h => ⟨by
      obtain ⟨us, h1, h2, h3⟩ := h.1
      match us, h1 with
      | [u], h1 => exact ⟨[u], ⟨row0_any h1.1, trivial⟩, h2, h3⟩, h.2⟩
  | x :: pre, post, v :: vs, h => ⟨h.1, all2_row0 (pre := pre) h.2⟩
/-- A contract for an empty list speaks of each empty list. -/
theorem GG.row0 {f : Nat} {pre post : List DV} {r : R} {z : Nat} (z' : Nat) (h : GG f (pre ++ (false, [.row z []]) :: post) r) : GG f (pre ++ (false, [.row z' []]) :: post) r :=
  ⟨by cases pre with
    | nil => rfl
    | cons x l => obtain ⟨b, ds⟩ := x; cases b <;> cases ds <;> exact h.1, h.2.1, fun M w vs hV hM ha => h.2.2 M w vs hV hM (all2_row0 ha)⟩
/-- What comes behind, by name. -/
theorem exK {B : Prim} {G : Nat → List DV → R → Prop} {Y : Option Loop} {v : Code} {e : Env} {h : Heap} {n : Nat} {K : Out → Cont} (hx : ∀ K' : Out → Cont, (∀ o e h n, K' o e h n = K o e h n) → ex B G Y v e h n K') : ex B G Y v e h n K := hx K fun _ _ _ _ => rfl
theorem listedS_ok {l : List ByteArray} (h : listedS l = 0) : l.length ≤ 80 ∧ ∀ s ∈ l, textOk s = true := by
  unfold listedS at h
  split at h
  · cases h
  · split at h
    · rename_i h1 h2
      exact ⟨by omega, by simpa only [List.all_eq_true] using h2⟩
    · cases h
theorem levS_mono {m1 m2 : Mrk → Mrk → Bool} (a b : List Mrk) (h : ∀ x y, m1 x y = true → m2 x y = true) : ∀ i k, levS m2 a b i k ≤ levS m1 a b i k
  | 0, k => by simp [levS]
  | i + 1, 0 => by simp [levS]
  | i + 1, k + 1 => by
    have h1 := levS_mono a b h i k
    have h2 := levS_mono a b h i (k + 1)
    have h3 := levS_mono a b h (i + 1) k
    have h4 := h (a.getD i ⟨0, 0⟩) (b.getD k ⟨0, 0⟩)
    simp only [levS]
    cases c1 : m1 (a.getD i ⟨0, 0⟩) (b.getD k ⟨0, 0⟩) <;> cases c2 : m2 (a.getD i ⟨0, 0⟩) (b.getD k ⟨0, 0⟩)
    · simp only [cond_true, cond_false]; omega
    · simp only [cond_true, cond_false]; omega
    · rw [h4 c1] at c2; cases c2
    · simp only [cond_true, cond_false]; omega
theorem levS_max (m : Mrk → Mrk → Bool) (a b : List Mrk) : ∀ i k, levS m a b i k ≤ max (i : Int) k
  | 0, k => by simp [levS]
  | i + 1, 0 => by simp [levS]; omega
  | i + 1, k + 1 => by
    have h1 := levS_max m a b i k
    simp only [levS]
    cases m (a.getD i ⟨0, 0⟩) (b.getD k ⟨0, 0⟩) <;> simp only [cond_true, cond_false] <;> omega
theorem levS_diff (m : Mrk → Mrk → Bool) (a b : List Mrk) : ∀ i k : Nat, (i : Int) - k ≤ levS m a b i k ∧ (k : Int) - i ≤ levS m a b i k
  | 0, k => by simp [levS]
  | i + 1, 0 => by simp [levS]; omega
  | i + 1, k + 1 => by
    have h1 := levS_diff m a b i k
    have h2 := levS_diff m a b i (k + 1)
    have h3 := levS_diff m a b (i + 1) k
    simp only [levS]
    cases m (a.getD i ⟨0, 0⟩) (b.getD k ⟨0, 0⟩) <;> simp only [cond_true, cond_false] <;> omega
theorem levS_symm (m : Mrk → Mrk → Bool) (a b : List Mrk) : ∀ i k, levS m a b i k = levS (fun x y => m y x) b a k i
  | 0, 0 => by simp [levS]
  | 0, k + 1 => by simp [levS]
  | i + 1, 0 => by simp [levS]
  | i + 1, k + 1 => by
    have h1 := levS_symm m a b i k
    have h2 := levS_symm m a b i (k + 1)
    have h3 := levS_symm m a b (i + 1) k
    simp only [levS]
    rw [h1, h2, h3]
    cases m (a.getD i ⟨0, 0⟩) (b.getD k ⟨0, 0⟩) <;> simp only [cond_true, cond_false] <;> omega
theorem levS_zero (m : Mrk → Mrk → Bool) (a b : List Mrk) : ∀ i k, levS m a b i k = 0 ↔ i = k ∧ ∀ j, j < i → m (a.getD j ⟨0, 0⟩) (b.getD j ⟨0, 0⟩) = true
  | 0, k => by simp [levS]; omega
  | i + 1, 0 => by simp [levS]; omega
  | i + 1, k + 1 => by
    have h1 := levS_zero m a b i k
    have b1 := (levS_bd m a b i k).1
    have b2 := (levS_bd m a b i (k + 1)).1
    have b3 := (levS_bd m a b (i + 1) k).1
    simp only [levS]
    constructor
    · intro h
      cases c : m (a.getD i ⟨0, 0⟩) (b.getD k ⟨0, 0⟩)
      · rw [c] at h; simp only [cond_false] at h; omega
      · rw [c] at h
        simp only [cond_true] at h
        obtain ⟨e, h5⟩ := h1.1 (by omega)
        subst e
        refine ⟨rfl, fun j hj => ?_⟩
        by_cases hji : j = i
        · subst hji; exact c
        · exact h5 j (by omega)
    · rintro ⟨e, h5⟩
      have e : i = k := by omega
      subst e
      rw [h5 i (by omega)]
      simp only [cond_true]
      have := h1.2 ⟨rfl, fun j hj => h5 j (by omega)⟩
      omega
theorem eqGo_iff (p : Mrk → Mrk → Bool) : ∀ (a b : List Mrk), eqGo p a b = true ↔ a.length = b.length ∧ ∀ j, j < a.length → p (a.getD j ⟨0, 0⟩) (b.getD j ⟨0, 0⟩) = true
  | [], [] => by simp [eqGo]
  | [], _ :: _ => by simp [eqGo]
  | _ :: _, [] => by simp [eqGo]
  | x :: r, y :: q => by
    rw [eqGo, Bool.and_eq_true, eqGo_iff p r q]
    constructor
    · rintro ⟨h1, h2, h3⟩
      refine ⟨by simp [h2], fun j hj => ?_⟩
      cases j with
      | zero => exact h1
      | succ j => exact h3 j (by simpa using hj)
    · rintro ⟨h1, h2⟩
      exact ⟨h2 0 (by simp), by simpa using h1, fun j hj => h2 (j + 1) (by simpa using hj)⟩
/-- No trouble just where a row of marks may become the other one. -/
theorem lev_eqGo (p : Mrk → Mrk → Bool) (a b : List Mrk) : levS p a b a.length b.length = 0 ↔ eqGo p a b = true := by
  rw [levS_zero, eqGo_iff]
theorem mayB_mono {s1 s2 : List Swp} (h : ∀ x ∈ s1, x ∈ s2) (a b : Mrk) (hm : mayB s1 a b = true) : mayB s2 a b = true := by
  simp only [mayB, Bool.or_eq_true, Bool.and_eq_true, List.any_eq_true, decide_eq_true_eq] at hm ⊢
  rcases hm with h1 | ⟨h1, x, h2, h3⟩
  · exact .inl h1
  · exact .inr ⟨h1, x, h x h2, h3⟩
theorem mayB_nil (a b : Mrk) : mayB [] a b = decide (a = b) := by simp [mayB]
end Go.Vi
