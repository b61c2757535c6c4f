/-
  The framework: rows, library.
-/
import Derived.Test.YtkjnedjjdmfpbaaGreatDoorA5
import GoSem.ClaimChange
import Derived.DataReads
import Derived.ChangeShapes
import Derived.ChangeOld
import Derived.WideShapes
import Derived.Carry
import Derived.Test.YtkjnedjjdmfpbaaGreatDoorProg
import Derived.KernelRfl
set_option linter.unusedVariables false
set_option linter.unusedSimpArgs false
set_option linter.unusedSectionVars false
namespace Go.Vi
open Go.RowKit
set_option linter.unusedVariables false

def inRow (P : Program) : List Field → Nat → Nat → Bool
  | [], k, n => k == n
  | f :: r, k, n => f.offset == k && inRow P r (k + P.cellsOf f.type) n
/-- Types of numbers, bools, strings, structs and slices of such. -/
def plainT (P : Program) : Nat → TypeId → Bool
  | 0, _ => false
  | n + 1, t => match P.underlying t with
    | some .bool => true
    | some (.int _) => true
    | some .string => true
    | some (.slice e) => plainT P n e && decide (0 < P.cellsOf e)
    | some (.struct fs) => fs.toList.all (fun f => plainT P n f.type) && inRow P fs.toList 0 (P.cellsOf t)
    | _ => false
/-- Data of a type. -/
def HasT (P : Program) : Nat → TypeId → List D → Prop
  | 0, _, _ => False
  | n + 1, t, ds => match P.underlying t with
    | some .bool => ∃ b, ds = [.bool b]
    | some (.int k) => ∃ m, ds = [.int k m] ∧ (Lit.int k m).wf = true
    | some .string => ∃ s, ds = [.str s] ∧ s.size ≤ maxLen
    | some (.slice e) => ∃ es, ds = [.row (P.cellsOf e) es] ∧ es.length ≤ maxLen ∧ ∀ c ∈ es, c.length = P.cellsOf e ∧ HasT P n e c
    | some (.struct fs) => ∃ parts : List (List D), ds = parts.flatten ∧ All2 (fun (f : Field) c => HasT P n f.type c) fs.toList parts
    | _ => False

section
variable {P : Program} {w : World} {H : Type} {enc : TypeId × Value → H} {spare : Nat → Bool} {held : Bool}

theorem exists_list {α : Type} {Q : Nat → α → Prop} : ∀ (n : Nat), (∀ i, i < n → ∃ x, Q i x) → ∃ l : List α, l.length = n ∧ ∀ i x, l[i]? = some x → Q i x
  | 0, _ => ⟨[], rfl, fun i x h => by simp at h⟩
  | n + 1, h => by
    obtain ⟨l, h1, h2⟩ := exists_list n fun i hi => h i (by omega)
    obtain ⟨x, hx⟩ := h n (by omega)
    refine ⟨l ++ [x], by simp [h1], fun i y hy => ?_⟩
    rcases Nat.lt_or_ge i l.length with hi | hi
    · rw [List.getElem?_append_left hi] at hy
      exact h2 i y hy
    · rw [List.getElem?_append_right hi] at hy
      have : i = l.length := by
        have := (List.getElem?_eq_some_iff.1 hy).1
        simp at this
        omega
      subst this
      simp at hy
      subst hy
      rw [h1]
      exact hx
theorem flat_at {sz : Nat} : ∀ {es : List (List D)}, (∀ c ∈ es, c.length = sz) → ∀ (j : Nat) (d : D), es.flatten[j]? = some d → ∃ i r c, j = i * sz + r ∧ r < sz ∧ es[i]? = some c ∧ c[r]? = some d
  | [], _, j, d, h => by simp at h
  | c :: es, hs, j, d, h => by
    have hc : c.length = sz := hs c List.mem_cons_self
    rw [List.flatten_cons] at h
    rcases Nat.lt_or_ge j c.length with hj | hj
    · rw [List.getElem?_append_left hj] at h
      exact ⟨0, j, c, by simp, by omega, rfl, h⟩
    · rw [List.getElem?_append_right hj] at h
      obtain ⟨i, r, c', h1, h2, h3, h4⟩ := flat_at (fun c hc => hs c (List.mem_cons_of_mem _ hc)) _ _ h
      refine ⟨i + 1, r, c', ?_, h2, by simpa using h3, h4⟩
      rw [Nat.add_mul]
      omega
theorem flat_len {sz : Nat} : ∀ {es : List (List D)}, (∀ c ∈ es, c.length = sz) → es.flatten.length = es.length * sz
  | [], _ => by simp
  | c :: es, hs => by
    rw [List.flatten_cons, List.length_append, flat_len fun c hc => hs c (List.mem_cons_of_mem _ hc), hs c List.mem_cons_self, List.length_cons, Nat.add_mul]
    omega

theorem struct_parts {R : D → Value → Prop} {Q : Field → List D → Prop} {cs : List Value} : ∀ (fs : List Field) (k n : Nat), inRow P fs k n = true → cs.length = n →
    (∀ f ∈ fs, ∃ ds, All2 R ds ((cs.drop f.offset).take (P.cellsOf f.type)) ∧ Q f ds) → k ≤ n ∧ ∃ parts : List (List D), All2 R parts.flatten (cs.drop k) ∧ All2 Q fs parts
  | [], k, n, h, hl, _ => by
    simp only [inRow, beq_iff_eq] at h
    subst h
    refine ⟨Nat.le_refl _, [], ?_, trivial⟩
    rw [List.drop_of_length_le (by omega)]
    trivial
  | f :: fs, k, n, h, hl, hf => by
    simp only [inRow, Bool.and_eq_true, beq_iff_eq] at h
    obtain ⟨h1, h2⟩ := h
    subst h1
    obtain ⟨h3, parts, h4, h5⟩ := struct_parts fs _ n h2 hl fun g hg => hf g (List.mem_cons_of_mem _ hg)
    obtain ⟨ds, h6, h7⟩ := hf f List.mem_cons_self
    refine ⟨by omega, ds :: parts, ?_, h7, h5⟩
    rw [List.flatten_cons]
    have : cs.drop f.offset = (cs.drop f.offset).take (P.cellsOf f.type) ++ cs.drop (f.offset + P.cellsOf f.type) := by
      rw [← List.drop_drop, List.take_append_drop]
    rw [this]
    exact h6.append h4

theorem trod_bool {t : TypeId} {fuel : Nat} {cs : List Value} {x : DataW H × List MemPlace} (hu : P.underlying t = some .bool) (h : DataW.trod enc P w 0 spare held (fuel + 1) t cs = some x) : ∃ b, cs = [.bool b] := by
  simp only [DataW.trod, hu] at h
  split at h
  all_goals first | (rename_i heq; cases heq; done) | (cases h; done) | skip
  exact ⟨_, rfl⟩
theorem trod_int {t : TypeId} {k : IntKind} {fuel : Nat} {cs : List Value} {x : DataW H × List MemPlace} (hu : P.underlying t = some (.int k)) (h : DataW.trod enc P w 0 spare held (fuel + 1) t cs = some x) : ∃ m, cs = [.int k m] ∧ (Lit.int k m).wf = true := by
  simp only [DataW.trod, hu] at h
  split at h
  all_goals first | (rename_i heq; cases heq; done) | (cases h; done) | skip
  rename_i heq
  cases heq
  split at h
  · rename_i hk
    obtain ⟨rfl, h1⟩ := hk
    exact ⟨_, rfl, h1⟩
  · cases h
theorem trod_string {t : TypeId} {fuel : Nat} {cs : List Value} {x : DataW H × List MemPlace} (hu : P.underlying t = some .string) (h : DataW.trod enc P w 0 spare held (fuel + 1) t cs = some x) : ∃ s, cs = [.string s] ∧ s.size ≤ maxLen := by
  simp only [DataW.trod, hu] at h
  split at h
  all_goals first | (rename_i heq; cases heq; done) | (cases h; done) | skip
  split at h
  · rename_i hk
    exact ⟨_, rfl, hk⟩
  · cases h
theorem trod_slice {t e : TypeId} {fuel : Nat} {cs : List Value} {x : DataW H × List MemPlace} (hu : P.underlying t = some (.slice e)) (h : DataW.trod enc P w 0 spare held (fuel + 1) t cs = some x) : cs = [.slice none 0 0] ∨
    ∃ a len cap elems, cs = [.slice (some a) len cap] ∧ len ≤ cap ∧ cap ≤ maxLen ∧ (List.range len).mapM (fun i => (w.cells? 0 (a.add (i * P.cellsOf e)) (P.cellsOf e)).bind (DataW.trod enc P w 0 spare held fuel e)) = some elems := by
  simp only [DataW.trod, hu] at h
  split at h
  all_goals first | (rename_i heq; cases heq; done) | (cases h; done) | skip
  · exact .inl rfl
  · rename_i heq
    cases heq
    split at h
    · rename_i hk
      obtain ⟨elems, he, _⟩ := Option.bind_eq_some_iff.1 h
      exact .inr ⟨_, _, _, elems, rfl, hk.2.1, hk.2.2, he⟩
    · cases h
theorem trod_struct {t : TypeId} {fs : Array Field} {fuel : Nat} {cs : List Value} {x : DataW H × List MemPlace} (hu : P.underlying t = some (.struct fs)) (h : DataW.trod enc P w 0 spare held (fuel + 1) t cs = some x) : cs.length = P.cellsOf t ∧
    ∃ xs, fs.toList.mapM (fun f => DataW.trod enc P w 0 spare held fuel f.type ((cs.drop f.offset).take (P.cellsOf f.type))) = some xs := by
  simp only [DataW.trod, hu] at h
  split at h
  all_goals first | (rename_i heq; cases heq; done) | (cases h; done) | skip
  rename_i hk
  obtain ⟨xs, hxs, _⟩ := Option.map_eq_some_iff.1 h
  exact ⟨hk, xs, hxs⟩

/-- **What is read is data.** -/
theorem trod_data : ∀ (n : Nat) (t : TypeId) (fuel : Nat) (cs : List Value) (x : DataW H × List MemPlace), plainT P n t = true → DataW.trod enc P w 0 spare held fuel t cs = some x →
    ∃ ds, All2 (RD (fun _ => False) w) ds cs ∧ HasT P n t ds
  | 0, _, _, _, _, h, _ => by cases h
  | n + 1, t, 0, _, _, _, h => by simp [DataW.trod] at h
  | n + 1, t, fuel + 1, cs, x, hp, h => by
    simp only [plainT] at hp
    simp only [HasT]
    cases hu : P.underlying t with
    | none => rw [hu] at hp; cases hp
    | some u =>
      rw [hu] at hp
      cases u <;> first | (cases hp; done) | skip
      case bool =>
        obtain ⟨b, rfl⟩ := trod_bool hu h
        exact ⟨[D.bool b], ⟨.bool _, trivial⟩, b, rfl⟩
      case int k =>
        obtain ⟨m, rfl, h1⟩ := trod_int hu h
        exact ⟨[D.int k m], ⟨.int _ _, trivial⟩, m, rfl, h1⟩
      case string =>
        obtain ⟨s, rfl, h1⟩ := trod_string hu h
        exact ⟨[D.str s], ⟨.str _, trivial⟩, s, rfl, h1⟩
      case slice e =>
        simp only [Bool.and_eq_true, decide_eq_true_eq] at hp
        obtain ⟨hpe, hpos⟩ := hp
        rcases trod_slice hu h with rfl | ⟨a, len, cap, elems, rfl, hlc1, hlc2, he⟩
        · exact ⟨[.row (P.cellsOf e) []], ⟨.rowE _ _ _, trivial⟩, [], rfl, Nat.zero_le _, by simp⟩
        · have hlc : len ≤ cap ∧ cap ≤ maxLen := ⟨hlc1, hlc2⟩
          have dummy : True := trivial
          · 
            have hlen : elems.length = len := by simpa using mapM_some_length he
            have hat : ∀ i, i < len → ∃ c : List D, ∃ us, w.cells? 0 (a.add (i * P.cellsOf e)) (P.cellsOf e) = some us ∧ All2 (RD (fun _ => False) w) c us ∧ HasT P n e c := by
              intro i hi
              have h1 := mapM_some_get he i i (by simp [hi])
              have h2 : ∃ y, elems[i]? = some y := ⟨elems[i], List.getElem?_eq_getElem (by omega)⟩
              obtain ⟨y, hy⟩ := h2
              rw [hy] at h1
              obtain ⟨us, h3, h4⟩ := Option.bind_eq_some_iff.1 h1
              obtain ⟨c, h5, h6⟩ := trod_data n e fuel us y hpe h4
              exact ⟨c, us, h3, h5, h6⟩
            obtain ⟨es, hel, hes⟩ := exists_list len hat
            have hsz : ∀ c ∈ es, c.length = P.cellsOf e := by
              intro c hc
              obtain ⟨i, hi⟩ := List.getElem?_of_mem hc
              obtain ⟨us, h1, h2, _⟩ := hes i c hi
              rw [h2.length]
              exact (World.cells?_some h1).2.1
            have hty : ∀ c ∈ es, c.length = P.cellsOf e ∧ HasT P n e c := by
              intro c hc
              obtain ⟨i, hi⟩ := List.getElem?_of_mem hc
              obtain ⟨us, h1, h2, h3⟩ := hes i c hi
              exact ⟨hsz c hc, h3⟩
            have hcell : ∀ (j : Nat) (d : D), es.flatten[j]? = some d → ∃ u, w.cell? (a.add j) = some u ∧ RD (fun _ => False) w d u := by
              intro j d hd
              obtain ⟨i, r, c, rfl, h2, h3, h4⟩ := flat_at hsz j d hd
              obtain ⟨us, h5, h6, _⟩ := hes i c h3
              obtain ⟨u, h7, h8⟩ := h6.get r d h4
              have h9 := (World.cells?_some h5).2.2 r h2
              rw [add_add, h7] at h9
              exact ⟨u, h9, h8⟩
            refine ⟨[.row (P.cellsOf e) es], ⟨?_, trivial⟩, es, rfl, by omega, hty⟩
            by_cases h0 : es = []
            · subst h0
              have : len = 0 := by simpa using hel.symm
              subst this
              exact .rowE _ _ _
            · have hb : a.block < w.heap.size := by
                match es, h0 with
                | c :: r, _ =>
                  obtain ⟨us, h1, _⟩ := hes 0 c rfl
                  have h4 := World.cells?_block h1 hpos
                  simpa [add_block] using h4
              rw [← hel]
              refine .row _ es a cap (fun j => (w.cell? (a.add j)).getD undef) hsz (by omega) hb (fun h => h) (fun j hj => ?_) (fun j d hd => ?_)
              · obtain ⟨u, h1, _⟩ := hcell j _ (List.getElem?_eq_getElem hj)
                rw [h1]
                rfl
              · obtain ⟨u, h1, h2⟩ := hcell j d hd
                rw [h1]
                exact h2
      case struct fs =>
        simp only [Bool.and_eq_true, List.all_eq_true] at hp
        obtain ⟨hpf, hrow⟩ := hp
        obtain ⟨hcl, xs, hxs⟩ := trod_struct hu h
        · 
          obtain ⟨_, parts, h1, h2⟩ := struct_parts (R := RD (fun _ => False) w) (Q := fun f c => HasT P n f.type c) (cs := cs) fs.toList 0 _ hrow hcl (fun f hf => by
            obtain ⟨i, hi⟩ := List.getElem?_of_mem hf
            have h3 := mapM_some_get hxs i f hi
            have hil : i < xs.length := by rw [mapM_some_length hxs]; exact (List.getElem?_eq_some_iff.1 hi).1
            rw [List.getElem?_eq_getElem hil] at h3
            exact trod_data n f.type fuel _ _ (hpf f hf) h3)
          exact ⟨parts.flatten, by simpa using h1, parts, rfl, h2⟩
end
end Go.Vi
namespace Go.Vi
open Go.RowKit Go.WideShapes
set_option linter.unusedVariables false

def argT (P : Program) (t : TypeId) : Bool := match P.underlying t with
  | some (.struct _) => true
  | _ => false
/-- A value that is data of its type. -/
def Typed (P : Program) (n : Nat) (t : TypeId) (x : DV) : Prop := HasT P n t x.2 ∧ x.1 = argT P t

section
variable {P : Program} {w : World} {H : Type} {enc : TypeId × Value → H} {spare : Nat → Bool} {held : Bool} {r : Reach} {base : Nat}

theorem arg_data {n : Nat} {t : TypeId} {v : Value} {d : DataW H} {ps : List MemPlace} (hp : plainT P n t = true) (ho : Value.okWide P w r base t v) (h : DataW.Trod enc P w 0 spare held t v d ps) : ∃ x : DV, RDV (fun _ => False) w x v ∧ Typed P n t x := by
  obtain ⟨fuel, h⟩ := h
  obtain ⟨ds, h1, h2⟩ := trod_data n t fuel _ _ hp h
  have one : v.cells.toList = [v] → argT P t = false → ∃ x : DV, RDV (fun _ => False) w x v ∧ Typed P n t x := by
    intro hc ha
    rw [hc] at h1
    exact ⟨(false, ds), ⟨[v], h1, rfl, rfl⟩, h2, ha.symm⟩
  cases n with
  | zero => cases hp
  | succ n =>
    simp only [plainT] at hp
    cases hu : P.underlying t with
    | none => rw [hu] at hp; cases hp
    | some u =>
      rw [hu] at hp
      cases u <;> first | (cases hp; done) | skip
      case bool => obtain ⟨b, rfl⟩ := okWide_bool hu ho; exact one rfl (by simp [argT, hu])
      case int k => obtain ⟨b, rfl⟩ := okWide_int hu ho; exact one rfl (by simp [argT, hu])
      case string => obtain ⟨b, rfl⟩ := okWide_string hu ho; exact one rfl (by simp [argT, hu])
      case slice e => obtain ⟨a, l, c, rfl⟩ := okWide_slice hu ho; exact one rfl (by simp [argT, hu])
      case struct fs =>
        obtain ⟨cs, rfl, _⟩ := okWide_struct hu ho
        refine ⟨(true, ds), ⟨cs.toList, by simpa [Value.cells] using h1, trivial, by simp [mkV]⟩, h2, by simp [argT, hu]⟩

theorem args_data {n : Nat} : ∀ {ts : List TypeId} {vs : List Value} {ds : List (DataW H)} {ps : List MemPlace}, (∀ t ∈ ts, plainT P n t = true) → (∀ (j : Nat) t v, ts[j]? = some t → vs[j]? = some v → Value.okWide P w r base t v) →
    DataW.TrodAll enc P w 0 spare held ts vs ds ps → ∃ xs : List DV, All2 (RDV (fun _ => False) w) xs vs ∧ All2 (Typed P n) ts xs
  | [], vs, ds, ps, _, _, h => by
    cases vs <;> cases ds <;> simp [DataW.TrodAll] at h
    exact ⟨[], trivial, trivial⟩
  | t :: ts, vs, ds, ps, hp, ho, h => by
    obtain ⟨v, vs', d, ds', p, q, rfl, rfl, rfl, h1, h2⟩ := Go.ChangeShapes.trodAll_cons h
    obtain ⟨x, h3, h4⟩ := arg_data (hp t List.mem_cons_self) (ho 0 t v rfl rfl) h1
    obtain ⟨xs, h5, h6⟩ := args_data (fun t ht => hp t (List.mem_cons_of_mem _ ht)) (fun j t v ht hv => ho (j + 1) t v (by simpa using ht) (by simpa using hv)) h2
    exact ⟨x :: xs, ⟨h3, h5⟩, h4, h6⟩

/-- Each argument reads behind the call as it did. -/
theorem trodAll_kept (hl : laidOutB P = true) : ∀ {ts : List TypeId} {vs : List Value} {ds : List (DataW H)} {ps : List MemPlace} {W' : World}, (∀ t ∈ ts, P.readableRec t = true ∧ t < P.types.size) → Below w.heap.size w W' → (∀ x ∈ ps, x.block < w.heap.size) →
    DataW.TrodAll enc P w 0 (fun _ => true) true ts vs ds ps → DataW.TrodAll enc P W' 0 (fun b => decide (b < w.heap.size)) true ts vs ds ps
  | [], vs, ds, ps, W', _, _, _, h => by
    cases vs <;> cases ds <;> simp [DataW.TrodAll] at h ⊢
    exact h
  | t :: ts, vs, ds, ps, W', ht, hb, hlt, h => by
    obtain ⟨v, vs', d, ds', p, q, rfl, rfl, rfl, h1, h2⟩ := Go.ChangeShapes.trodAll_cons h
    exact ⟨p, q, Below.trod hl (ht t List.mem_cons_self).1 (ht t List.mem_cons_self).2 h1 hb fun x hx => hlt x (List.mem_append_left _ hx),
      trodAll_kept hl (fun t h => ht t (List.mem_cons_of_mem _ h)) hb (fun x hx => hlt x (List.mem_append_right _ hx)) h2, rfl⟩

/-- **The call of a law.** -/
theorem law_walk {n f : Nat} {ts : List TypeId} {args : Array Value} {ds : List (DataW H)} {ps : List MemPlace} (hV : VarsOk P w) (hgood : ∀ xs, All2 (Typed P n) ts xs → Good P f xs (.one (false, [.bool true]))) (hp : ∀ t ∈ ts, plainT P n t = true)
    (ho : ∀ (j : Nat) t v, ts[j]? = some t → args[j]? = some v → Value.okWide P w r base t v) (h : DataW.TrodAll enc P w 0 spare held ts args.toList ds ps) :
    Calls P f args w fun e w' => e = .returned (.bool true) ∧ Below w.heap.size w w' := by
  obtain ⟨xs, h1, h2⟩ := args_data hp (fun j t v ht hv => ho j t v ht (by simpa using hv)) h
  have := hgood xs h2 (fun _ => False) w args.toList hV (fun _ h => h.elim) h1
  rw [Array.toArray_toList] at this
  refine this.mono ?_
  rintro e w' ⟨v, rfl, ⟨us, h3, h4, rfl⟩, h5⟩
  match us, h3 with
  | [u], h3 =>
    have : u = .bool true := RD.bool_eq h3.1
    subst this
    exact ⟨rfl, h5⟩
end
end Go.Vi
namespace Go.Vi
set_option linter.unusedVariables false

section
variable {B : Prim} {G : Nat → List DV → R → Prop}
theorem exOp_mono {K K' : Cont} (hk : ∀ e h n, K e h n → K' e h n) {o : Op} {dst : Option Nat} {e : Env} {h : Heap} {n : Nat} : exOp B G o dst e h n K → exOp B G o dst e h n K' := by
  cases o <;> simp only [exOp] <;> (repeat' split) <;>
    first
    | exact hk _ _ _
    | exact id
    | (rintro ⟨r, h1, h2⟩; exact ⟨r, h1, hk _ _ _ h2⟩)
    | (rintro ⟨r, h1, h2, h3⟩; exact ⟨r, h1, h2, hk _ _ _ h3⟩)
    | (rintro ⟨h1, h2, h3⟩; exact ⟨h1, h2, hk _ _ _ h3⟩)
theorem exOps_mono : ∀ {l : List Oper} {K K' : Cont} (hk : ∀ e h n, K e h n → K' e h n) {e : Env} {h : Heap} {n : Nat}, exOps B G l e h n K → exOps B G l e h n K'
  | [], _, _, hk, _, _, _, hx => hk _ _ _ hx
  | ⟨dst, o, none⟩ :: r, _, _, hk, _, _, _, hx => by
    simp only [exOps] at hx ⊢
    exact exOp_mono (fun e h n hh => exOps_mono hk hh) hx
  | ⟨dst, o, some (t, want)⟩ :: r, _, _, hk, e, h, n, hx => by
    simp only [exOps] at hx ⊢
    cases hb : Arg.bool e.get (.t t) with
    | none =>
      rw [hb] at hx
      dsimp only at hx ⊢
      split at hx
      · exact exOps_mono hk hx
      · exact hx
    | some b =>
      rw [hb] at hx
      cases b <;> cases want <;> dsimp only at hx ⊢
      · exact exOp_mono (fun e h n hh => exOps_mono hk hh) hx
      · exact exOps_mono hk hx
      · exact exOps_mono hk hx
      · exact exOp_mono (fun e h n hh => exOps_mono hk hh) hx
theorem tidy_mono {live : List Nat} {n : Nat} {e : Env} {h : Heap} {A C : Env → Heap → Prop} (hab : ∀ e h, A e h → C e h) (ht : tidy live n e h A) : tidy live n e h C := by
  unfold tidy at ht ⊢
  split at ht
  · split at ht
    · exact hab _ _ ht
    · exact ht
  · exact ht
theorem tidyR_mono {p q : Nat} {live : List Nat} {n : Nat} {e : Env} {h : Heap} {A C : Env → Heap → Prop} (hab : ∀ e h, A e h → C e h) (ht : tidyR p q live n e h A) : tidyR p q live n e h C := by
  unfold tidyR at ht ⊢
  split at ht
  · split at ht
    · exact tidy_mono hab ht
    · exact ht
  · exact ht
theorem ex_mono : ∀ (v : Code) {Y : Option Loop} {K K' : Out → Cont} (hk : ∀ o e h n, K o e h n → K' o e h n) {e : Env} {h : Heap} {n : Nat}, ex B G Y v e h n K → ex B G Y v e h n K' := by
  intro v
  induction v with
  | skip => intro Y K K' hk e h n hx; exact hk _ _ _ _ hx
  | region ops live => intro Y K K' hk e h n hx; exact exOps_mono (fun e h n => hk _ _ _ _) hx
  | seq a b iha ihb =>
    intro Y K K' hk e h n hx
    refine iha ?_ hx
    intro o e h n
    cases o with
    | normal => exact ihb hk
    | exit i => exact hk _ _ _ _
    | ret => exact hk _ _ _ _
  | cond c a b iha ihb =>
    intro Y K K' hk e h n
    simp only [ex]
    cases Arg.bool e.get c with
    | none => exact id
    | some t => cases t <;> first | exact iha hk | exact ihb hk
  | block i a iha =>
    intro Y K K' hk e h n hx
    refine iha ?_ hx
    intro o e h n
    cases o with
    | normal => exact hk _ _ _ _
    | exit j => dsimp only; cases Nat.beq j i <;> exact hk _ _ _ _
    | ret => exact hk _ _ _ _
  | loop live a iha =>
    intro Y K K' hk e h n hx
    simp only [ex] at hx ⊢
    obtain ⟨I, k0, h1, h2⟩ := hx.out
    refine ⟨⟨I, k0, h1, fun k e h hi => iha ?_ (h2 k e h hi)⟩⟩
    intro o e h n
    cases o with
    | normal => exact id
    | exit j => exact hk _ _ _ _
    | ret => exact hk _ _ _ _
  | exit i => intro Y K K' hk e h n hx; exact hk _ _ _ _ hx
  | ret => intro Y K K' hk e h n hx; exact hk _ _ _ _ hx
  | inl pre dst x f k args body rs post live ih =>
    intro Y K K' hk e h n hx
    simp only [ex] at hx ⊢
    refine exOps_mono ?_ hx
    intro e h n
    cases argVs e.get x f args with
    | none => exact id
    | some vs =>
      dsimp only
      cases Nat.beq vs.length k with
      | false => exact id
      | true =>
        intro hx tm
        refine ih ?_ (hx tm)
        intro o e' h' n'
        cases o with
        | exit i => exact id
        | _ =>
          dsimp only
          cases resL B e'.get h'.get rs with
          | none => exact id
          | some rv =>
            dsimp only
            cases h'.get _ with
            | none => exact id
            | some ob =>
              cases ob <;> first | exact id | (rintro ⟨h1, h2⟩; exact ⟨h1, exOps_mono (fun e h n => hk _ _ _ _) h2⟩)
  | scope a iha => intro Y K K' hk e h n hx; exact iha hk hx
  | frz t a iha =>
    intro Y K K' hk e h n
    simp only [ex]
    split
    · split
      · exact iha hk
      · exact id
    · exact id
  | iter x f k body live ih =>
    intro Y K K' hk e h n
    simp only [ex]
    cases x.cell e.get with
    | none => exact id
    | some c =>
      dsimp only
      cases iterVs c f with
      | none => exact id
      | some caps =>
        dsimp only
        cases Nat.beq (caps.length + 1) k with
        | false => exact id
        | true =>
          intro hx l tm ρ ht
          refine ih ?_ (hx l tm ρ ht)
          intro o e' h' n'
          cases o with
          | exit i => exact id
          | _ =>
            dsimp only
            cases h'.get n with
            | none => exact id
            | some ob =>
              cases ob <;> first | exact id | skip
              rintro ⟨h1, h2⟩
              refine ⟨h1, ?_⟩
              revert h2
              cases h'.get (n + 1) with
              | none => exact id
              | some ob =>
                cases ob <;> first | exact id | skip
                rintro ⟨h3, h4, h5⟩
                refine ⟨h3, h4, ?_⟩
                revert h5
                rename_i st p
                cases st <;> first | exact id | skip
                all_goals
                  cases p with
                  | none => exact hk _ _ _ _
                  | some c => cases c <;> first | exact id | exact hk _ _ _ _
  | yld pre dst y args params assign body post live iha ihb =>
    intro Y K K' hk e h n hx
    simp only [ex] at hx ⊢
    refine exOps_mono ?_ hx
    intro e h n
    cases y.dat e.get with
    | none => exact id
    | some d =>
      cases vals e.get args with
      | none => exact id
      | some vs =>
        cases d <;> first | exact id | skip
        rename_i l id0
        dsimp only
        cases h.get id0 with
        | none => exact id
        | some ob =>
          cases ob <;> first | exact id | skip
          rename_i aL eL
          dsimp only
          cases h.get (id0 + 1) with
          | none => exact id
          | some ob =>
            cases ob <;> first | exact id | skip
            rename_i l0 ρ0 st0 p0
            dsimp only
            cases putVs eL params vs with
            | none => cases st0 <;> exact id
            | some eR =>
              cases st0 <;> first | exact id | skip
              rintro ⟨h1, h2, h3, h4⟩
              refine ⟨h1, h2, h3, fun tm => iha ?_ (h4 tm)⟩
              intro o e1 h1 n1
              cases o with
              | exit i => exact id
              | ret => exact id
              | normal =>
                dsimp only
                cases h1.get (id0 + 1) with
                | none => exact id
                | some ob =>
                  cases ob <;> first | exact id | skip
                  rename_i l1 ρ1 st1 p1
                  cases st1 <;> first | exact id | skip
                  rintro ⟨h5, h6, h7⟩
                  refine ⟨h5, h6, ihb ?_ h7⟩
                  intro o e2 h2 n2
                  cases h2.get n with
                  | none => exact id
                  | some ob =>
                    cases ob <;> first | exact id | skip
                    rintro ⟨h8, h9⟩
                    refine ⟨h8, ?_⟩
                    revert h9
                    cases h2.get (id0 + 1) with
                    | none => exact id
                    | some ob =>
                      cases ob <;> first | exact id | skip
                      rintro ⟨h10, h11, h12⟩
                      refine ⟨h10, h11, ?_⟩
                      cases o with
                      | normal => exact exOps_mono (fun e h n => hk _ _ _ _) h12
                      | ret => exact exOps_mono (fun e h n => hk _ _ _ _) h12
                      | exit i => exact exOps_mono (fun e h n => hk _ _ _ _) h12
end
end Go.Vi
namespace Go.Vi
open Go.Proofs

/-- The contracts of the loaded program. -/
def GG (f : Nat) (ds : List DV) (r : R) : Prop := uncoded ds = true ∧ Fit Tryz.prog f ∧ Good Tryz.prog f ds r
/-- The same of a call that rewrites a row. -/
def GW (f : Nat) (ds : List DV) (r : R) : Prop := ∃ sz es args es', ds = (false, []) :: (false, [.row sz es]) :: args ∧ r = .one (false, [.row sz es']) ∧ Fit Tryz.prog f ∧ GoodW Tryz.prog f sz es args es'
def GX (f : Nat) (ds : List DV) (r : R) : Prop := GG f ds r ∨ GW f ds r
theorem knownGX : ∀ f ds r, GX f ds r → Fit Tryz.prog f ∧ Good Tryz.prog f ds r ∧ ∀ sz es args es', ds = (false, []) :: (false, [.row sz es]) :: args → r = .one (false, [.row sz es']) → GoodW Tryz.prog f sz es args es' := by
  rintro f ds r (⟨h1, h2⟩ | ⟨sz, es, args, es', rfl, rfl, h3, h4⟩)
  · exact ⟨h2.1, h2.2, fun sz es args es' he _ => by subst he; cases h1⟩
  · refine ⟨h3, fun M w vs _ _ ha => ?_, fun sz' es1 args' es1' he hr => by cases he; cases hr; exact h4⟩
    cases vs with
    | nil => exact ha.elim
    | cons u us =>
      obtain ⟨xs, k1, k2, _⟩ := ha.1
      cases xs with
      | nil => cases k2
      | cons _ _ => exact k1.elim
theorem mixed : Tryz.prog.follows .mixedOrders = true := by kernel_rfl

/-- What the operations are. -/
structure PF (lt le eq : Int → Int → Bool) (add sub mul : IntKind → Int → Int → Int) (quo rem : IntKind → Int → Int → Option Int) (conv : IntKind → Int → Int) (strEq strLt : ByteArray → ByteArray → Bool)
    (strCat : ByteArray → ByteArray → Option ByteArray) (strLen : ByteArray → Int) (strAt : ByteArray → Int → Option Int) (strCut : ByteArray → Option Int → Option Int → Option ByteArray) (bytes : ByteArray → List (List D))
    (ofBytes : List (List D) → Option ByteArray) (len : List (List D) → Int) (nth : List (List D) → Int → Option (List D)) (cut : List (List D) → Option Int → Option Int → Option (List (List D))) (fits : Nat → List (List D) → Bool)
    (app : List (List D) → List (List D) → List (List D)) (rep : Nat → Int → List D → Option (List (List D))) (setEl : List (List D) → Int → Nat → D → Option (List (List D))) (look : List (D × List D) → D → Option (List D)) (upd : List (D × List D) → D → List D → List (D × List D)) (ne : Int → Int → Bool) (strNe : ByteArray → ByteArray → Bool) : Prop where
  lt : ∀ a b, lt a b = decide (a < b)
  le : ∀ a b, le a b = decide (a ≤ b)
  eq : ∀ a b, eq a b = decide (a = b)
  add : ∀ k a b, add k a b = k.wrap (a + b)
  sub : ∀ k a b, sub k a b = k.wrap (a - b)
  mul : ∀ k a b, mul k a b = k.wrap (a * b)
  quo : ∀ k a b, quo k a b = if b = 0 then none else some (k.wrap (a.tdiv b))
  rem : ∀ k a b, rem k a b = if b = 0 then none else some (a.tmod b)
  conv : ∀ k a, conv k a = k.wrap a
  strEq : ∀ a b, strEq a b = decide (a = b)
  strLt : ∀ a b, strLt a b = Op.bytesLess a.toList b.toList
  strCat : ∀ a b, strCat a b = if a.size + b.size ≤ 9223372036854775807 then some (a ++ b) else none
  strLen : ∀ s, strLen s = (s.size : Int)
  strAt : ∀ s i, strAt s i = prims.strAt s i
  strCut : ∀ s l h, strCut s l h = prims.strCut s l h
  bytes : ∀ s, bytes s = s.data.toList.map fun b => [.int .u8 b.toNat]
  ofBytes : ∀ es, ofBytes es = prims.ofBytes es
  len : ∀ es, len es = (es.length : Int)
  nth : ∀ es i, nth es i = if 0 ≤ i then es[i.toNat]? else none
  cut : ∀ es l h, cut es l h = prims.cut es l h
  fits : ∀ n es, fits n es = decide (es.length * n ≤ 140737488355328 ∧ es.length ≤ 9223372036854775807)
  app : ∀ a b, app a b = a ++ b
  rep : ∀ n k zs, rep n k zs = prims.rep n k zs
  setEl : ∀ es i o x, setEl es i o x = prims.setEl es i o x
  look : ∀ es k, look es k = prims.look es k
  upd : ∀ es k cs, upd es k cs = updL es k cs
  ne : ∀ a b, ne a b = decide (a ≠ b)
  strNe : ∀ a b, strNe a b = decide (a ≠ b)

theorem bytes_eq (a b : ByteArray) : (a.toList == b.toList) = decide (a = b) := by
  rw [Bool.eq_iff_iff]
  simp only [beq_iff_eq, decide_eq_true_eq]
  constructor
  · intro h
    rw [ByteArray.toList_eq, ByteArray.toList_eq] at h
    cases a; cases b
    congr 1
    exact Array.toList_inj.1 h
  · rintro rfl; rfl
theorem primsPF : PF prims.lt prims.le prims.eq prims.add prims.sub prims.mul prims.quo prims.rem prims.conv prims.strEq prims.strLt prims.strCat prims.strLen prims.strAt prims.strCut prims.bytes prims.ofBytes prims.len prims.nth prims.cut prims.fits prims.app prims.rep prims.setEl prims.look prims.upd prims.ne prims.strNe where
  lt _ _ := rfl
  le _ _ := rfl
  eq a b := by show (a == b) = _; rw [Bool.eq_iff_iff]; simp
  add _ _ _ := rfl
  sub _ _ _ := rfl
  mul _ _ _ := rfl
  quo _ _ _ := rfl
  rem _ _ _ := rfl
  conv _ _ := rfl
  strEq a b := bytes_eq a b
  strLt _ _ := rfl
  strCat _ _ := rfl
  strLen _ := rfl
  strAt _ _ := rfl
  strCut _ _ _ := rfl
  bytes _ := rfl
  ofBytes _ := rfl
  len _ := rfl
  nth _ _ := rfl
  cut _ _ _ := rfl
  fits _ _ := rfl
  app _ _ := rfl
  rep _ _ _ := rfl
  setEl _ _ _ _ := rfl
  look _ _ := rfl
  upd _ _ _ := rfl
  ne a b := by show (!(a == b)) = _; rw [Bool.eq_iff_iff]; simp
  strNe a b := by show (!(a.toList == b.toList)) = _; rw [bytes_eq]; rw [Bool.eq_iff_iff]; simp

abbrev Goal (v : Code) (args : List DV) (K : Prim → Out → Cont) (r : R) : Prop :=
  ∀ (G : Nat → List DV → R → Prop), (∀ f ds r, GG f ds r → G f ds r) → (∀ f ds r, GW f ds r → G f ds r) → ∀ (lt le eq : Int → Int → Bool) (add sub mul : IntKind → Int → Int → Int) (quo rem : IntKind → Int → Int → Option Int) (conv : IntKind → Int → Int) (strEq strLt : ByteArray → ByteArray → Bool)
    (strCat : ByteArray → ByteArray → Option ByteArray) (strLen : ByteArray → Int) (strAt : ByteArray → Int → Option Int) (strCut : ByteArray → Option Int → Option Int → Option ByteArray) (bytes : ByteArray → List (List D))
    (ofBytes : List (List D) → Option ByteArray) (len : List (List D) → Int) (nth : List (List D) → Int → Option (List D)) (cut : List (List D) → Option Int → Option Int → Option (List (List D))) (fits : Nat → List (List D) → Bool)
    (app : List (List D) → List (List D) → List (List D)) (rep : Nat → Int → List D → Option (List (List D))) (setEl : List (List D) → Int → Nat → D → Option (List (List D))) (look : List (D × List D) → D → Option (List D)) (upd : List (D × List D) → D → List D → List (D × List D)) (ne : Int → Int → Bool) (strNe : ByteArray → ByteArray → Bool),
    PF lt le eq add sub mul quo rem conv strEq strLt strCat strLen strAt strCut bytes ofBytes len nth cut fits app rep setEl look upd ne strNe →
    ex ⟨lt, le, eq, add, sub, mul, quo, rem, conv, strEq, strLt, strCat, strLen, strAt, strCut, bytes, ofBytes, len, nth, cut, fits, app, rep, setEl, look, upd, ne, strNe⟩ G none v (argEnv 0 args) [] 0 (K ⟨lt, le, eq, add, sub, mul, quo, rem, conv, strEq, strLt, strCat, strLen, strAt, strCut, bytes, ofBytes, len, nth, cut, fits, app, rep, setEl, look, upd, ne, strNe⟩)

/-- **A contract is begun.** -/
theorem start {f : Nat} {v : Code} {rs : List Res} {args : List DV} {r : R} (hc : chkFn Tryz.prog f args.length v rs = true) (hn : noIter v = true) (h : ∀ r', r' = r → Goal v args (fun B => answer B rs (fun q => q = r')) r') (hu : uncoded args = true := by rfl) : GG f args r :=
  ⟨hu, good_of_ex mixed knownGX hc hn (h r rfl GX (fun _ _ _ h => .inl h) (fun _ _ _ h => .inr h) _ _ _ _ _ _ _ _ _ _ _ _ _ _ _ _ _ _ _ _ _ _ _ _ _ _ _ _ primsPF)⟩

end Go.Vi
namespace Go.Vi
open Go.Proofs

theorem wrap64 {n : Int} (h1 : -9223372036854775808 ≤ n) (h2 : n < 9223372036854775808) : IntKind.i64.wrap n = n := by
  simp only [IntKind.wrap, IntKind.bits, IntKind.signed]
  simp
  split <;> omega
theorem wrap8 {n : Int} (h1 : 0 ≤ n) (h2 : n < 256) : IntKind.u8.wrap n = n := by
  simp only [IntKind.wrap, IntKind.bits, IntKind.signed]
  simp
  omega
/-- Numbers that int holds. -/
def I64 (n : Int) : Prop := -9223372036854775808 ≤ n ∧ n < 9223372036854775808

/-! ### calls -/
section
variable {G : Nat → List DV → R → Prop} {f : Nat} {ds : List DV} {K : R → Prop}
theorem callB {p : Bool} (hg : G f ds (.one (false, [.bool p]))) (h : ∀ b, b = p → K (.one (false, [.bool b]))) : ∃ r, G f ds r ∧ r.scalar = true ∧ K r := ⟨_, hg, rfl, h p rfl⟩
theorem callI {k : IntKind} {p : Int} (hg : G f ds (.one (false, [.int k p]))) (h : ∀ b, b = p → K (.one (false, [.int k b]))) : ∃ r, G f ds r ∧ r.scalar = true ∧ K r := ⟨_, hg, rfl, h p rfl⟩
theorem callS {p : ByteArray} (hg : G f ds (.one (false, [.str p]))) (h : ∀ b, b = p → K (.one (false, [.str b]))) : ∃ r, G f ds r ∧ r.scalar = true ∧ K r := ⟨_, hg, rfl, h p rfl⟩
theorem call0 {r : R} (hg : G f ds r) (h : K r) : ∃ r, G f ds r ∧ K r := ⟨_, hg, h⟩
theorem callRow {sz : Nat} {es : List (List D)} (hg : G f ds (.one (false, [.row sz es]))) (h : ∀ b, b = es → K (.one (false, [.row sz b]))) : ∃ r, G f ds r ∧ K r := ⟨_, hg, h es rfl⟩
end

/-! ### loops -/
section
variable {B : Prim} {G : Nat → List DV → R → Prop} {Y : Option Loop} {a : Code} {live : List Nat} {n : Nat} {e : Env} {h : Heap} {K : Out → Cont}
/-- A loop whose number rises by one. -/
theorem loopS {S : Type} (n0 : Nat) (E : Nat → S → Env) (Hp : Nat → S → Heap) (P : Nat → S → Prop) (s : S) (h0 : tidy live n e h (fun e' h' => e' = E 0 s ∧ h' = Hp 0 s)) (hp : P 0 s)
    (hs : ∀ k s, k ≤ n0 → P k s → ex B G Y a (E k s) (Hp k s) n (fun o e' h' n' => match o with
      | .normal => ∃ s', k < n0 ∧ P (k + 1) s' ∧ tidy live n e' h' (fun e'' h'' => e'' = E (k + 1) s' ∧ h'' = Hp (k + 1) s')
      | .exit i => K (.exit i) e' h' n'
      | .ret => K .ret e' h' n')) : Loops (fun e h n K => ex B G Y a e h n K) live n e h K := by
  refine ⟨⟨fun m e h => ∃ k s, k ≤ n0 ∧ m = n0 - k ∧ P k s ∧ e = E k s ∧ h = Hp k s, n0, tidy_mono (fun e h ⟨he, hh⟩ => ⟨0, s, Nat.zero_le _, rfl, hp, he, hh⟩) h0, ?_⟩⟩
  rintro m e h ⟨k, s, hk, rfl, hp, rfl, rfl⟩
  refine ex_mono a ?_ (hs k s hk hp)
  intro o e' h' n' ho
  cases o with
  | normal =>
    obtain ⟨s', hlt, hp', ht⟩ := ho
    exact .inl (tidy_mono (fun e h ⟨he, hh⟩ => ⟨n0 - (k + 1), by omega, k + 1, s', hlt, rfl, hp', he, hh⟩) ht)
  | exit i => exact ho
  | ret => exact ho
/-- The same, where two objects exchange their numbers behind each round. -/
theorem loopR (p q : Nat) (n0 : Nat) (E : Nat → Env) (Hp : Nat → Heap) (P : Nat → Prop) (h0 : tidy live n e h (fun e' h' => e' = E 0 ∧ h' = Hp 0)) (hp : P 0)
    (hs : ∀ k, k ≤ n0 → P k → ex B G Y a (E k) (Hp k) n (fun o e' h' n' => match o with
      | .normal => k < n0 ∧ P (k + 1) ∧ tidyR p q live n e' h' (fun e'' h'' => e'' = E (k + 1) ∧ h'' = Hp (k + 1))
      | .exit i => K (.exit i) e' h' n'
      | .ret => K .ret e' h' n')) : Loops (fun e h n K => ex B G Y a e h n K) live n e h K := by
  refine ⟨⟨fun m e h => ∃ k, k ≤ n0 ∧ m = n0 - k ∧ P k ∧ e = E k ∧ h = Hp k, n0, tidy_mono (fun e h ⟨he, hh⟩ => ⟨0, Nat.zero_le _, rfl, hp, he, hh⟩) h0, ?_⟩⟩
  rintro m e h ⟨k, hk, rfl, hp, rfl, rfl⟩
  refine ex_mono a ?_ (hs k hk hp)
  intro o e' h' n' ho
  cases o with
  | normal =>
    obtain ⟨hlt, hp', ht⟩ := ho
    exact .inr ⟨p, q, tidyR_mono (fun e h ⟨he, hh⟩ => ⟨n0 - (k + 1), by omega, k + 1, hlt, rfl, hp', he, hh⟩) ht⟩
  | exit i => exact ho
  | ret => exact ho
/-- The same, where nothing but the number turns. -/
theorem loopU (n0 : Nat) (E : Nat → Env) (Hp : Heap) (P : Nat → Prop) (h0 : tidy live n e h (fun e' h' => e' = E 0 ∧ h' = Hp)) (hp : P 0)
    (hs : ∀ k, k ≤ n0 → P k → ex B G Y a (E k) Hp n (fun o e' h' n' => match o with
      | .normal => k < n0 ∧ P (k + 1) ∧ tidy live n e' h' (fun e'' h'' => e'' = E (k + 1) ∧ h'' = Hp)
      | .exit i => K (.exit i) e' h' n'
      | .ret => K .ret e' h' n')) : Loops (fun e h n K => ex B G Y a e h n K) live n e h K :=
  loopS n0 (fun k (_ : Unit) => E k) (fun _ _ => Hp) (fun k _ => P k) () h0 hp fun k _ hk hp => ex_mono a (fun o e' h' n' ho => by
    cases o with
    | normal => exact ⟨(), ho⟩
    | exit i => exact ho
    | ret => exact ho) (hs k hk hp)
/-- The same, where the objects turn with the number. -/
theorem loopV (n0 : Nat) (E : Nat → Env) (Hp : Nat → Heap) (P : Nat → Prop) (h0 : tidy live n e h (fun e' h' => e' = E 0 ∧ h' = Hp 0)) (hp : P 0)
    (hs : ∀ k, k ≤ n0 → P k → ex B G Y a (E k) (Hp k) n (fun o e' h' n' => match o with
      | .normal => k < n0 ∧ P (k + 1) ∧ tidy live n e' h' (fun e'' h'' => e'' = E (k + 1) ∧ h'' = Hp (k + 1))
      | .exit i => K (.exit i) e' h' n'
      | .ret => K .ret e' h' n')) : Loops (fun e h n K => ex B G Y a e h n K) live n e h K :=
  loopS n0 (fun k (_ : Unit) => E k) (fun k _ => Hp k) (fun k _ => P k) () h0 hp fun k _ hk hp => ex_mono a (fun o e' h' n' ho => by
    cases o with
    | normal => exact ⟨(), ho⟩
    | exit i => exact ho
    | ret => exact ho) (hs k hk hp)
end
theorem take_step {α β : Type} {l r : List α} {x : α} {k : Nat} (f : α → β) (h : l.drop k = x :: r) : (l.take (k + 1)).map f = (l.take k).map f ++ [f x] := by
  have hk : k < l.length := by
    rcases Nat.lt_or_ge k l.length with h' | h'
    · exact h'
    · rw [List.drop_of_length_le h'] at h; cases h
  rw [List.take_add_one, List.map_append, List.getElem?_eq_getElem hk]
  rw [List.drop_eq_getElem_cons hk] at h
  cases h
  rfl

theorem lenOne {x : List D} {n : Nat} (h : x.length = n) : ∀ cs ∈ [x], cs.length = n := by
  intro cs hc
  rw [List.mem_singleton] at hc
  rw [hc, h]
/-! ### lists by their rest -/
theorem drop_nil {α : Type} {l : List α} {k : Nat} (h : l.drop k = []) (hk : k ≤ l.length) : k = l.length := by
  have := List.drop_eq_nil_iff.1 h
  omega
theorem drop_cons {α : Type} {l r : List α} {x : α} {k : Nat} (h : l.drop k = x :: r) : k < l.length ∧ l[k]? = some x ∧ l.drop (k + 1) = r := by
  have hk : k < l.length := by
    rcases Nat.lt_or_ge k l.length with h' | h'
    · exact h'
    · rw [List.drop_of_length_le h'] at h; cases h
  rw [List.drop_eq_getElem_cons hk] at h
  cases h
  exact ⟨hk, List.getElem?_eq_getElem hk, rfl⟩

section
variable {lt le eq : Int → Int → Bool} {add sub mul : IntKind → Int → Int → Int} {quo rem : IntKind → Int → Int → Option Int} {conv : IntKind → Int → Int} {strEq strLt : ByteArray → ByteArray → Bool}
    {strCat : ByteArray → ByteArray → Option ByteArray} {strLen : ByteArray → Int} {strAt : ByteArray → Int → Option Int} {strCut : ByteArray → Option Int → Option Int → Option ByteArray} {bytes : ByteArray → List (List D)}
    {ofBytes : List (List D) → Option ByteArray} {len : List (List D) → Int} {nth : List (List D) → Int → Option (List D)} {cut : List (List D) → Option Int → Option Int → Option (List (List D))} {fits : Nat → List (List D) → Bool}
    {app : List (List D) → List (List D) → List (List D)} {rep : Nat → Int → List D → Option (List (List D))} {setEl : List (List D) → Int → Nat → D → Option (List (List D))} {look : List (D × List D) → D → Option (List D)} {upd : List (D × List D) → D → List D → List (D × List D)} {ne : Int → Int → Bool} {strNe : ByteArray → ByteArray → Bool}
variable (H : PF lt le eq add sub mul quo rem conv strEq strLt strCat strLen strAt strCut bytes ofBytes len nth cut fits app rep setEl look upd ne strNe)
include H

theorem PF.inc {k n : Nat} (h : k < n) (hn : n ≤ maxLen) : add .i64 (Int.ofNat k) 1 = Int.ofNat (k + 1) := by
  rw [H.add, wrap64] <;> simp only [maxLen, Int.ofNat_eq_natCast] at * <;> omega
/-- A row's end. -/
theorem PF.rowNil {α : Type} {l : List α} {enc : α → List D} {es : List (List D)} {k : Nat} (he : es = l.map enc) (h : l.drop k = []) (hk : k ≤ l.length) : lt (Int.ofNat k) (len es) = false := by
  have := drop_nil h hk
  subst this
  rw [H.lt, H.len, he]
  simp
/-- A row's next element. -/
theorem PF.rowCons {α : Type} {l r : List α} {x : α} {enc : α → List D} {es : List (List D)} {k : Nat} (he : es = l.map enc) (hl : l.length ≤ maxLen) (h : l.drop k = x :: r) :
    lt (Int.ofNat k) (len es) = true ∧ nth es (Int.ofNat k) = some (enc x) ∧ add .i64 (Int.ofNat k) 1 = Int.ofNat (k + 1) ∧ l.drop (k + 1) = r ∧ k + 1 ≤ l.length := by
  obtain ⟨h1, h2, h3⟩ := drop_cons h
  refine ⟨?_, ?_, H.inc h1 hl, h3, h1⟩
  · rw [H.lt, H.len, he]; simp [h1]
  · rw [H.nth, he]; simp [h2]
theorem PF.leK (n m : Nat) {c : Int} (hc : c = m) : le (n : Int) c = decide (n ≤ m) := by
  rw [H.le, Bool.eq_iff_iff, decide_eq_true_eq, decide_eq_true_eq]
  omega
theorem PF.ltK (n m : Nat) {c : Int} (hc : c = m) : lt (n : Int) c = decide (n < m) := by
  rw [H.lt, Bool.eq_iff_iff, decide_eq_true_eq, decide_eq_true_eq]
  omega
theorem PF.gtK (n m : Nat) {c : Int} (hc : c = m) : lt c (n : Int) = decide (m < n) := by
  rw [H.lt, Bool.eq_iff_iff, decide_eq_true_eq, decide_eq_true_eq]
  omega
theorem PF.eqK (n m : Nat) {c : Int} (hc : c = m) : eq (n : Int) c = decide (n = m) := by
  rw [H.eq, Bool.eq_iff_iff, decide_eq_true_eq, decide_eq_true_eq]
  omega
/-- What a list holds fits. -/
theorem PF.fitsLe {n : Nat} {es : List (List D)} (hl : es.length ≤ 2000000000000) (hn : n ≤ 60) : fits n es = true := by
  rw [H.fits, decide_eq_true_eq]
  exact ⟨Nat.le_trans (Nat.mul_le_mul hl hn) (by decide), by omega⟩
theorem PF.strNil {s : ByteArray} {k : Nat} (h : s.data.toList.drop k = []) (hk : k ≤ s.data.toList.length) : lt (Int.ofNat k) (strLen s) = false := by
  have := drop_nil h hk
  subst this
  rw [H.lt, H.strLen]
  simp
theorem PF.strCons {s : ByteArray} {r : List UInt8} {x : UInt8} {k : Nat} (hl : s.size ≤ maxLen) (h : s.data.toList.drop k = x :: r) :
    lt (Int.ofNat k) (strLen s) = true ∧ (∃ c, strAt s (Int.ofNat k) = some c ∧ c = x.toNat) ∧ add .i64 (Int.ofNat k) 1 = Int.ofNat (k + 1) ∧ s.data.toList.drop (k + 1) = r ∧ k + 1 ≤ s.data.toList.length := by
  obtain ⟨h1, h2, h3⟩ := drop_cons h
  have h4 : k < s.size := by simpa using h1
  refine ⟨?_, ?_, H.inc h4 hl, h3, h1⟩
  · rw [H.lt, H.strLen]; simp [h4]
  · rw [H.strAt]
    have : s[k]? = some x := by
      rw [Array.getElem?_toList] at h2
      obtain ⟨h5, h6⟩ := getElem?_eq_some_iff.1 h2
      exact getElem?_eq_some_iff.2 ⟨h5, h6⟩
    exact ⟨_, by simp [prims, this], rfl⟩
end
end Go.Vi
namespace Go.Vi
open Go.Proofs
theorem startI {f : Nat} {v : Code} {rs : List Res} {args : List DV} {r : R} (hc : chkFn Tryz.prog f args.length v rs = true) (h : ∀ r', r' = r → Goal v args (fun B o e h n => Heap.noSaved h = true ∧ answer B rs (fun q => q = r') o e h n) r') (hu : uncoded args = true := by rfl) : GG f args r :=
  ⟨hu, good_of_ex' mixed knownGX hc (fun _ _ _ _ h => ⟨h.2, .inr h.1⟩) (h r rfl GX (fun _ _ _ h => .inl h) (fun _ _ _ h => .inr h) _ _ _ _ _ _ _ _ _ _ _ _ _ _ _ _ _ _ _ _ _ _ _ _ _ _ _ _ primsPF)⟩
/-- What comes behind a loop, by name. -/
theorem loopK {body : Env → Heap → Nat → (Out → Cont) → Prop} {live : List Nat} {n : Nat} {e : Env} {h : Heap} {K : Out → Cont}
    (hx : ∀ K' : Out → Cont, (∀ o e h n, K' o e h n = K o e h n) → Loops body live n e h K') : Loops body live n e h K := hx K fun _ _ _ _ => rfl
end Go.Vi
