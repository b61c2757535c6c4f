/-
  The framework: calls, guards, orders.
-/
import Derived.Test.YtkjnedjjdmfpbaaGreatDoorA3
import Derived.Tactics
import Derived.Orders
set_option linter.unusedVariables false
set_option linter.unusedSimpArgs false
set_option linter.unusedSectionVars false
namespace Go.Vi
open Go.RowKit
set_option linter.unusedVariables false

/-- A function that has a body, and is entered. -/
def Fit (P : Program) (f : Nat) : Prop := ∀ (args : Array Value) (w : World), (callFunc f args).run P w = .ok (.enter f args) w
/-- Calls that are known. -/
def Known (P : Program) (G : Nat → List DV → R → Prop) (w0 : World) (B0 : Nat → Prop) : Prop := ∀ f ds r, G f ds r → Fit P f ∧ GoodAt P w0 B0 f ds r ∧
  ∀ sz es args es', ds = (false, []) :: (false, [.row sz es]) :: args → r = .one (false, [.row sz es']) → GoodWAt P w0 B0 f sz es args es'

section
variable {P : Program} {w0 : World} {B0 M0 : Nat → Prop} {N : Nat} {μ μ' : Nat → Value} {e : EnvF} {h : HeapF} {a : Act} {w w' : World} {n : Nat}

theorem dataL_open : ∀ {cs : List C} {ds : List D}, dataL cs = some ds → cs = ofData ds
  | [], ds, h => by simp [dataL] at h; subst h; rfl
  | c :: r, ds, h => by
    simp only [dataL] at h
    split at h
    · rename_i x hx
      split at h
      · rename_i xs hxs
        cases h
        cases c <;> simp only [C.data, Option.some.injEq, reduceCtorEq] at hx
        subst hx
        rw [dataL_open hxs]
        rfl
      · cases h
    · cases h
theorem ofData_all {M : Nat → Prop} {s : Nat → Option Sh} : ∀ {ds : List D} {us : List Value}, All2 (RC M w μ s) (ofData ds) us ↔ All2 (RD M w) ds us
  | [], [] => Iff.rfl
  | [], _ :: _ => Iff.rfl
  | _ :: _, [] => Iff.rfl
  | _ :: _, _ :: _ => ⟨fun h => ⟨h.1, ofData_all.1 h.2⟩, fun h => ⟨h.1, ofData_all.2 h.2⟩⟩
theorem RDV.rv {M : Nat → Prop} {s : Nat → Option Sh} {x : DV} {u : Value} : RV M w μ s x.v u ↔ RDV M w x u := by
  obtain ⟨b, ds⟩ := x
  exact ⟨fun ⟨us, h1, h2, h3⟩ => ⟨us, ofData_all.1 h1, h2, h3⟩, fun ⟨us, h1, h2, h3⟩ => ⟨us, ofData_all.2 h1, h2, h3⟩⟩
theorem RR.rv {M : Nat → Prop} {s : Nat → Option Sh} {r : R} {u : Value} (hr : RR M w r u) : RV M w μ s r.v u := by
  cases r with
  | one x => exact RDV.rv.2 hr
  | many xs =>
    obtain ⟨us, h1, h2⟩ := hr
    refine ⟨us, h1, ?_⟩
    have key : ∀ {xs : List DV} {us : List Value}, All2 (RDV M w) xs us → All2 (fun p u => ∃ xs, All2 (RC M w μ s) p.2 xs ∧ okLen p.1 xs.length ∧ u = mkV p.1 xs) (ofDVs xs) us := by
      intro xs
      induction xs with
      | nil => intro us h; cases us with
        | nil => trivial
        | cons _ _ => exact h.elim
      | cons x r ih =>
        intro us h
        obtain ⟨b, ds⟩ := x
        match us, h with
        | u :: us, h =>
          obtain ⟨vs, h3, h4, h5⟩ := h.1
          exact ⟨⟨vs, ofData_all.2 h3, h4, h5⟩, ih h.2⟩
    exact key h2
theorem RDV.step {M M' : Nat → Prop} {x : DV} {u : Value} (hr : RDV M w x u) (hl : Leaves M w w') (hM : ∀ k, k < w.heap.size → M' k → M k) : RDV M' w' x u := by
  obtain ⟨us, h1, h2, h3⟩ := hr
  exact ⟨us, h1.mono fun _ _ h => h.step hl hM, h2, h3⟩
theorem RR.step {M M' : Nat → Prop} {r : R} {u : Value} (hr : RR M w r u) (hl : Leaves M w w') (hM : ∀ k, k < w.heap.size → M' k → M k) : RR M' w' r u := by
  cases r with
  | one x => exact RDV.step hr hl hM
  | many xs =>
    obtain ⟨us, h1, h2⟩ := hr
    exact ⟨us, h1, h2.mono fun _ _ h => h.step hl hM⟩
theorem scalarL_all {M M' : Nat → Prop} : ∀ {ds : List D} {us : List Value}, scalarL ds = true → All2 (RD M w) ds us → All2 (RD M' w) ds us
  | [], [], _, _ => trivial
  | d :: ds, u :: us, hs, hr => by
    simp only [scalarL] at hs
    split at hs
    · rename_i hd
      exact ⟨hr.1.scalar hd, scalarL_all hs hr.2⟩
    · cases hs
theorem RR.scalar {M M' : Nat → Prop} {r : R} {u : Value} (hr : RR M w r u) (hs : r.scalar = true) : RR M' w r u := by
  cases r with
  | one x =>
    obtain ⟨us, h1, h2⟩ := hr
    exact ⟨us, scalarL_all hs h1, h2⟩
  | many xs =>
    obtain ⟨us, h1, h2⟩ := hr
    refine ⟨us, h1, ?_⟩
    have key : ∀ {xs : List DV} {us : List Value}, scalarP xs = true → All2 (RDV M w) xs us → All2 (RDV M' w) xs us := by
      intro xs
      induction xs with
      | nil => intro us _ h; cases us with
        | nil => trivial
        | cons _ _ => exact h.elim
      | cons x r ih =>
        intro us hs h
        obtain ⟨b, ds⟩ := x
        match us, h with
        | u :: us, h =>
          simp only [scalarP] at hs
          split at hs
          · rename_i hd
            obtain ⟨vs, h3, h4⟩ := h.1
            exact ⟨⟨vs, scalarL_all hd h3, h4⟩, ih hs h.2⟩
          · cases hs
    exact key hs h2

theorem dvs_sound (S : Sim w0 B0 M0 N μ e h a w) : ∀ {xs : List Operand} {ys : List Arg} {ds : List DV}, argsOk xs ys = true → dvs e ys = some ds → All2 (RDV (Mut M0 μ h) w) ds (xs.map a.eval)
  | [], [], ds, _, hd => by simp [dvs] at hd; subst hd; trivial
  | [], _ :: _, _, ho, _ => by simp [argsOk] at ho
  | _ :: _, [], _, ho, _ => by simp [argsOk] at ho
  | x :: xs, y :: ys, ds, ho, hd => by
    simp only [argsOk, Bool.and_eq_true] at ho
    simp only [dvs] at hd
    split at hd
    · rename_i v hv
      split at hd
      · rename_i d hvd
        split at hd
        · rename_i ds' hds
          cases hd
          refine ⟨?_, dvs_sound S ho.2 hds⟩
          cases v with
          | v b cs =>
            simp only [V.dv] at hvd
            split at hvd
            · rename_i l hl
              cases hvd
              have := S.arg ho.1 hv
              rw [dataL_open hl] at this
              exact RDV.rv.1 this
            · cases hvd
          | tup _ => cases hvd
        · cases hd
      · cases hd
    · cases hd
theorem frozen_ids : ∀ {ys : List Arg} {ds : List DV} {is : List Nat}, frozen e h ys = some (ds, is) → ∀ id ∈ is, h id ≠ none
  | [], ds, is, hd => by simp [frozen] at hd; obtain ⟨rfl, rfl⟩ := hd; simp
  | y :: ys, ds, is, hd => by
    simp only [frozen] at hd
    split at hd
    · split at hd
      · rename_i d i hfz
        split at hd
        · rename_i ds' is' hds
          cases hd
          intro id hid
          rcases List.mem_append.1 hid with hid | hid
          · exact freezeV_ids hfz id hid
          · exact frozen_ids hds id hid
        · cases hd
      · cases hd
    · cases hd
theorem frozen_sound (S : Sim w0 B0 M0 N μ e h a w) {M : Nat → Prop} (hM : ∀ b, M b → Mut M0 μ h b) : ∀ {xs : List Operand} {ys : List Arg} {ds : List DV} {is : List Nat}, argsOk xs ys = true → frozen e h ys = some (ds, is) →
    (∀ id ∈ is, ∀ b, blkOf (μ id) = some b → ¬ M b) → All2 (RDV M w) ds (xs.map a.eval)
  | [], [], ds, is, _, hd, _ => by simp [frozen] at hd; obtain ⟨rfl, rfl⟩ := hd; trivial
  | [], _ :: _, _, _, ho, _, _ => by simp [argsOk] at ho
  | _ :: _, [], _, _, ho, _, _ => by simp [argsOk] at ho
  | x :: xs, y :: ys, ds, is, ho, hd, hi => by
    simp only [argsOk, Bool.and_eq_true] at ho
    simp only [frozen] at hd
    split at hd
    · rename_i v hv
      split at hd
      · rename_i d i hfz
        split at hd
        · rename_i ds' is' hds
          cases hd
          exact ⟨freezeV_sound S hM hfz (fun id hid => hi id (List.mem_append_left _ hid)) (S.arg ho.1 hv), frozen_sound S hM ho.2 hds fun id hid => hi id (List.mem_append_right _ hid)⟩
        · cases hd
      · cases hd
    · cases hd

/-! ### an object is told no more -/
theorem anyCap_mem {p : Cap → Bool} : ∀ {cs : List Cap}, anyCap p cs = false → ∀ c ∈ cs, p c = false
  | [], _, c, hc => by cases hc
  | x :: r, h, c, hc => by
    simp only [anyCap] at h
    cases hx : p x with
    | true => simp [hx] at h
    | false =>
      rw [hx] at h
      rcases List.mem_cons.1 hc with rfl | hc
      · exact hx
      · exact anyCap_mem h c hc
theorem anyFirst_mem {p : Cap → Bool} : ∀ {vs : List (Bool × List Cap)}, anyFirst p vs = false → ∀ x ∈ vs, anyCap p x.2 = false
  | [], _, c, hc => by cases hc
  | (b, cs) :: r, h, c, hc => by
    simp only [anyFirst] at h
    cases hx : anyCap p cs with
    | true => simp [hx] at h
    | false =>
      rw [hx] at h
      rcases List.mem_cons.1 hc with rfl | hc
      · exact hx
      · exact anyFirst_mem h c hc

theorem Sim.forget (S : Sim w0 B0 M0 N μ e h a w) (i : Nat) : Sim w0 B0 M0 N μ (fdrop e (C.refers i)) (fgone (fkill h (C.refers i)) i) a w := by
  have hinv : ∀ j o, fgone (fkill h (C.refers i)) i j = some o → j ≠ i ∧ ∃ o', h j = some o' ∧ o = o'.kill (C.refers i) := by
    intro j o hj
    unfold fgone at hj
    split at hj
    · cases hj
    · rename_i hne
      exact ⟨hne, fkill_some hj⟩
  have hM : ∀ k, k < w.heap.size → Mut M0 μ (fgone (fkill h (C.refers i)) i) k → Mut M0 μ h k := by
    rintro k _ (h1 | ⟨j, o, h1, h2⟩)
    · exact .inl h1
    · obtain ⟨_, o', h3, _⟩ := hinv j o h1
      exact .inr ⟨j, o', h3, h2⟩
  have hs : ∀ j, j ≠ i → shapes (fgone (fkill h (C.refers i)) i) j = shapes h j := by
    intro j hj
    rw [← fkill_sh h (C.refers i)]
    simp [shapes, fgone, hj]
  have hRD : ∀ d v, RD (Mut M0 μ h) w d v → RD (Mut M0 μ (fgone (fkill h (C.refers i)) i)) w d v := fun d v hr => hr.step (Leaves.refl _ _) hM
  have hcap : ∀ c v, Cap.refers i c = false → RCap (Mut M0 μ h) w μ (shapes h) c v → RCap (Mut M0 μ (fgone (fkill h (C.refers i)) i)) w μ (shapes (fgone (fkill h (C.refers i)) i)) c v := by
    intro c v hc hr
    cases c with
    | d x => exact hRD x v hr
    | loc j off =>
      obtain ⟨h1, h2⟩ := hr
      simp only [Cap.refers, nbeq, decide_eq_false_iff_not] at hc
      exact ⟨by rw [hs j hc]; exact h1, h2⟩
  have hRC : ∀ c v, C.refers i c = false → RC (Mut M0 μ h) w μ (shapes h) c v → RC (Mut M0 μ (fgone (fkill h (C.refers i)) i)) w μ (shapes (fgone (fkill h (C.refers i)) i)) c v := by
    intro c v hc hr
    cases c with
    | d x => exact hRD x v hr
    | own j =>
      simp only [C.refers, nbeq, decide_eq_false_iff_not] at hc
      obtain ⟨⟨sz, len, h1⟩, h2⟩ := hr
      exact ⟨⟨sz, len, by rw [hs j hc]; exact h1⟩, h2⟩
    | loc j off =>
      simp only [C.refers, nbeq, decide_eq_false_iff_not] at hc
      obtain ⟨h1, h2⟩ := hr
      exact ⟨by rw [hs j hc]; exact h1, h2⟩
    | el j k off =>
      simp only [C.refers, nbeq, decide_eq_false_iff_not] at hc
      obtain ⟨sz, len, g, cap, h1, h2⟩ := hr
      exact ⟨sz, len, g, cap, by rw [hs j hc]; exact h1, h2⟩
    | fn f first cap =>
      simp only [C.refers] at hc
      split at hc
      · cases hc
      · rename_i hf
        obtain ⟨fs, cs, h1, h2, h3⟩ := hr
        have hf' := anyFirst_mem hf
        have hc' := anyCap_mem hc
        exact ⟨fs, cs, h1.mono_mem fun p hp us hu => ⟨hu.1.mono_mem fun c hcm u hu => hcap c u (anyCap_mem (hf' p hp) c hcm) hu, hu.2⟩, h2.mono_mem fun c hcm u hu => hcap c u (hc' c hcm) hu, h3⟩
    | lmap j =>
      simp only [C.refers, nbeq, decide_eq_false_iff_not] at hc
      obtain ⟨h1, h2⟩ := hr
      exact ⟨by rw [hs j hc]; exact h1, h2⟩
    | dead => exact hr
  refine ⟨S.tmps, S.defers, ?_, ?_, ?_, ?_, S.old, S.os, S.tape, S.output, S.size, S.frame⟩
  · intro t v hv
    obtain ⟨h1, h2⟩ := fdrop_some hv
    obtain ⟨u, h3, h4⟩ := S.env t v h1
    exact ⟨u, h3, h4.imp h2 hRC⟩
  · intro j o hj
    obtain ⟨hne, o', h3, rfl⟩ := hinv j o hj
    have h4 := S.heap j o' h3
    cases o' with
    | blk cs =>
      obtain ⟨g, t, us, h5, h6, h7⟩ := h4
      exact ⟨g, t, us, h5, h6, killL_all hRC (fun c u hr => RC.one S hr) h7⟩
    | arr ty sz es =>
      obtain ⟨h5, xs, h6, h7⟩ := h4
      exact ⟨h5, xs, h6, h7.mono hRD⟩
    | map sz es =>
      obtain ⟨r, ents, clock, h5, h6, h7⟩ := h4
      exact ⟨r, ents, clock, h5, h6, h7.step hRD⟩
    | saved tm se =>
      refine ⟨h4.1, h4.2.1, fun t x hx => ?_⟩
      rw [Env.get_kill] at hx
      obtain ⟨x0, h5, rfl⟩ := fkillE_some hx
      obtain ⟨u, h6, h7⟩ := h4.2.2 t x0 h5
      exact ⟨u, h6, h7.killed hRC fun c u hr => RC.one S hr⟩
    | lp l ρ st q => exact h4
  · intro j k o q b hj hk hbj hbk
    obtain ⟨_, o', h3, _⟩ := hinv j o hj
    obtain ⟨_, q', h4, _⟩ := hinv k q hk
    exact S.inj j k o' q' b h3 h4 hbj hbk
  · intro j o b hj hb
    obtain ⟨_, o', h3, _⟩ := hinv j o hj
    exact S.own j o' b h3 hb
theorem fdels_sub : ∀ (is : List Nat) {h : HeapF} {j : Nat} {o : Obj}, fdels h is j = some o → j ∉ is ∧ ∃ o', h j = some o'
  | [], h, j, o, hj => ⟨by simp, o, hj⟩
  | i :: r, h, j, o, hj => by
    obtain ⟨h1, o', h2⟩ := fdels_sub r hj
    unfold fgone at h2
    split at h2
    · cases h2
    · rename_i hne
      obtain ⟨o'', h3, _⟩ := fkill_some h2
      exact ⟨by simp [hne, h1], o'', h3⟩
theorem Sim.forgets : ∀ (is : List Nat) {e : EnvF} {h : HeapF}, Sim w0 B0 M0 N μ e h a w → Sim w0 B0 M0 N μ (fdrops e is) (fdels h is) a w
  | [], _, _, S => S
  | i :: r, _, _, S => Sim.forgets r (S.forget i)

/-! ### calls -/
theorem run_call {o : Go.Oper} {f : Nat} {xs : Array Operand} {ts : Array TypeId} (ho : o.op = .call { callee := .value (.func f), args := xs, argTypes := ts }) (hf : Fit P f) :
    (execOp a.eval o).run P w = .ok (.enter f (xs.toList.map a.eval).toArray) w := by
  have hv : a.eval (.func f) = .func (.func f) #[] #[] := rfl
  have hx : (xs.toList.map a.eval).toArray = xs.map a.eval := by rw [← Array.toList_map]
  simp [execOp, ho, resolve, hv, Deferred.ofValue, invoke, hx, hf (xs.map a.eval) w]

/-- A call whose arguments read as data that none of M bears. -/
theorem call_sound (S : Sim w0 B0 M0 N μ e h a w) {f : Nat} {xs : List Value} {M : Nat → Prop} (hM : ∀ b, M b → Mut M0 μ h b) {ds : List DV} {r : R} (hg : GoodAt P w0 B0 f ds r) (ha : All2 (RDV M w) ds xs) {K : Value → World → Prop}
    (hK : ∀ v w', RR M w' r v → Below w.heap.size w w' → K v w') : Calls P f xs.toArray w fun e' w' => ∃ v, e' = .returned v ∧ K v w' :=
  (hg M w xs S.frame (fun k hk => S.mut_lt (hM k hk)) ha).mono fun e' w' ⟨v, h1, h2, h3⟩ => ⟨v, h1, hK v w' h2 h3⟩

end
end Go.Vi
namespace Go.Vi
open Go.RowKit
set_option linter.unusedVariables false

def chkOp (P : Program) (o : Go.Oper) (op : Op) : Bool := match op with
  | .store _ k x y => match o.op with
    | .store t x' y' => sizeIs P t k && decide (0 < k) && argOk x' x && argOk y' y
    | _ => false
  | .append ty sz bytes x y => match o.op with
    | .call { callee := .builtin .append, args := as, argTypes := ts } => match as.toList, ts.toList with
      | [x', y'], [t, t'] => t == t' && appIs P t ty sz bytes && argOk x' x && argOk y' y
      | _, _ => false
    | _ => false
  | .call _ f xs => match o.op with
    | .call { callee := .value (.func g), args := as, argTypes := _ } => g == f && argsOk as.toList xs
    | _ => false
  | .callV _ x xs => match o.op with
    | .call { callee := .value y, args := as, argTypes := _ } => argOk y x && argsOk as.toList xs
    | _ => false
  | .callH f xs => match o.op with
    | .call { callee := .value (.func g), args := as, argTypes := _ } => g == f && argsOk as.toList xs
    | _ => false
  | .mapSet sz x k y => match o.op with
    | .mapUpdate t x' k' y' => setIs P t sz && argOk x' x && argOk k' k && argOk y' y
    | _ => false
  | .callVH x xs => match o.op with
    | .call { callee := .value y, args := as, argTypes := _ } => argOk y x && argsOk as.toList xs
    | _ => false
  | op => chkF P o op

theorem all2_scalar {M M' : Nat → Prop} {w : World} {es : List (List D)} {xs : List Value} (hs : ∀ cs ∈ es, scalarL cs = true) (h : All2 (RD M w) es.flatten xs) : All2 (RD M' w) es.flatten xs := by
  refine scalarL_all ?_ h
  clear h
  induction es with
  | nil => rfl
  | cons c r ih =>
    have h1 := hs c List.mem_cons_self
    have h2 := ih fun cs h => hs cs (List.mem_cons_of_mem _ h)
    rw [List.flatten_cons]
    clear ih hs
    induction c with
    | nil => exact h2
    | cons d ds ih2 =>
      simp only [scalarL, List.cons_append] at h1 ⊢
      split at h1
      · exact ih2 h1
      · cases h1
theorem put_defers (a : Act) (t : Option Tmp) (v : Value) : (a.put t v).defers = a.defers := by cases t <;> rfl
/-- And no mark more. -/
def AtD (w0 : World) (B0 M0 : Nat → Prop) (N : Nat) (K : EnvF → HeapF → Prop) (ds : List Deferred) (a : Act) (w : World) : Prop := (∃ μ e h, Sim w0 B0 M0 N μ e h a w ∧ K e h) ∧ a.defers = ds

section
variable {P : Program} {w0 : World} {B0 M0 : Nat → Prop} {N : Nat} {μ μ' : Nat → Value} {e : EnvF} {h : HeapF} {a : Act} {w w' : World} {n : Nat} {G : Nat → List DV → R → Prop} {Q : Exit → Act → World → Prop}

/-- What holds behind: some state of VI, and what is told of it. -/
def At (w0 : World) (B0 M0 : Nat → Prop) (N : Nat) (K : EnvF → HeapF → Prop) (a : Act) (w : World) : Prop := ∃ μ e h, Sim w0 B0 M0 N μ e h a w ∧ K e h
theorem At.mono {K K' : EnvF → HeapF → Prop} (hk : ∀ e h, K e h → K' e h) : At w0 B0 M0 N K a w → At w0 B0 M0 N K' a w := fun ⟨μ, e, h, S, k⟩ => ⟨μ, e, h, S, hk e h k⟩

theorem exF_sound (S : Sim w0 B0 M0 N μ e h a w) {o : Go.Oper} {op : Op} {K : EnvF → HeapF → Prop} (hc : chkOp P o op = true) (hG : Known P G w0 B0) (hd : dstOk N o.dst = true) (hf : ∀ id, n ≤ id → id < n + op.fresh → h id = none) (hx : exF prims G op o.dst e h n K) :
    o.wp P a w (AtD w0 B0 M0 N K a.defers) Q := by
  have ret : ∀ {e' : EnvF} {h' : HeapF} {w1 w' : World} {v : Value} {M : Nat → Prop} {r : R} {is : List Nat}, Sim w0 B0 M0 N μ e' h' a w' → RR (Mut M0 μ h') w' r v → K (fputo e' o.dst r.v) h' → AtD w0 B0 M0 N K a.defers (a.put o.dst v) w' := by
    intro e' h' w1 w' v M r is S' hr hk
    exact ⟨⟨μ, _, _, S'.put hd hr.rv, hk⟩, put_defers _ _ _⟩
  have enter : ∀ {f : Nat} {xs : List Value} {ds : List DV} {r : R} {is : List Nat}, (execOp a.eval o).run P w = .ok (.enter f xs.toArray) w → G f ds r → (∀ id ∈ is, h id ≠ none) → All2 (RDV (MutBut M0 μ h is) w) ds xs →
      (∀ v w', RR (MutBut M0 μ h is) w' r v → Sim w0 B0 M0 N μ e h a w' → AtD w0 B0 M0 N K a.defers (a.put o.dst v) w') → o.wp P a w (AtD w0 B0 M0 N K a.defers) Q := by
    intro f xs ds r is hrun hg hids hall hk
    unfold Oper.wp
    rw [hrun, Oper.upon_enter]
    refine (call_sound (K := fun v w' => AtD w0 B0 M0 N K a.defers (a.put o.dst v) w') S (M := MutBut M0 μ h is) (fun b hb => hb.sub) (hG f ds r hg).2.1 hall fun v w' h1 h2 => hk v w' h1 (S.below h2)).mono ?_
    rintro e' w' ⟨v, rfl, hv⟩
    exact hv
  have mut0 : ∀ b, Mut M0 μ h b → MutBut M0 μ h [] b := by
    rintro b (h1 | ⟨id, o, h1, h2⟩)
    · exact .inl h1
    · exact .inr ⟨id, o, by simp, h1, h2⟩
  have plain : chkF P o op = true → (∃ v objs, opF prims e h n op = some (v, objs) ∧ K (fputo e o.dst v) (fnew h n objs)) → o.wp P a w (AtD w0 B0 M0 N K a.defers) Q := by
    rintro hc ⟨v, objs, h1, h2⟩
    obtain ⟨u, w', μ', h3, h4, h5, h6⟩ := opF_sound (n := n) S hc hf h1
    unfold Oper.wp
    rw [h3, Oper.upon_value]
    exact ⟨⟨μ', _, _, h5.put hd h6, h2⟩, put_defers _ _ _⟩
  unfold chkOp at hc
  cases op
  case store ag k x y =>
    simp only [exF] at hx
    obtain ⟨c, ag', xs, id, ob, h1, h2, h3, h4, h5⟩ := hx
    dsimp only at hc
    split at hc
    · rename_i ho
      simp only [Bool.and_eq_true, decide_eq_true_eq] at hc
      obtain ⟨w', h6, h7⟩ := store_sound S ho hc.1.1.1 hc.1.1.2 hc.1.2 hc.2 h1 h2 h3 h4
      unfold Oper.wp
      rw [h6, Oper.upon_skip]
      exact ⟨⟨μ, _, _, h7.del hd, h5⟩, put_defers _ _ _⟩
    · cases hc
  case append ty sz bytes x y =>
    simp only [exF] at hx
    obtain ⟨d, new, h1, h2, h3⟩ := hx
    dsimp only at hc
    split at hc
    · rename_i as ts ho
      split at hc
      · rename_i x' y' t t' has hts
        simp only [Bool.and_eq_true, beq_iff_eq] at hc
        obtain ⟨⟨⟨rfl, h4⟩, h5⟩, h6⟩ := hc
        have ho' : o.op = .call { callee := .builtin .append, args := #[x', y'], argTypes := #[t, t] } := by
          rw [ho]
          have e1 : as = #[x', y'] := Array.toList_inj.1 has
          have e2 : ts = #[t, t] := Array.toList_inj.1 hts
          rw [e1, e2]
        rcases h3 with ⟨id, es, h7, h8, h9, h10, h11⟩ | ⟨rfl, h9, h10, h11⟩
        · obtain ⟨v', w', μ', h12, h13, h14⟩ := append_sound S ho' h4 h5 h6 h7 h1 h2 h8 h9 h10
          unfold Oper.wp
          rw [h12, Oper.upon_value]
          exact ⟨⟨μ', _, _, h13.put hd h14, h11⟩, put_defers _ _ _⟩
        · obtain ⟨u, w', μ', h12, h13, h14, h15⟩ := appendNil_sound S ho' h4 h5 h6 h1 h2 (fun id h1 h2 => hf id h1 h2) h9 h10
          unfold Oper.wp
          rw [h12, Oper.upon_value]
          exact ⟨⟨μ', _, _, h14.put hd h15, h11⟩, put_defers _ _ _⟩
      · cases hc
    · cases hc
  case call mode f args =>
    simp only [exF] at hx
    dsimp only at hc
    split at hc
    · rename_i g as ts ho
      simp only [Bool.and_eq_true, beq_iff_eq] at hc
      obtain ⟨rfl, hargs⟩ := hc
      rcases hx with ⟨_, ds, r, h1, h2, h3⟩ | ⟨_, ds, is, r, h1, h2, h3, h4⟩ | ⟨_, _, ds, is, r, h1, h2, h3⟩
      · refine enter (is := []) (run_call ho (hG _ _ _ h2).1) h2 (by simp) ((dvs_sound S hargs h1).mono fun _ _ hr => hr.step (Leaves.refl _ _) fun k _ hm => hm.sub) fun v w' h5 S' => ?_
        exact ret (w1 := w') (M := fun _ => False) (is := []) S' (h5.step (Leaves.refl _ _) fun k _ hm => mut0 k hm) h3
      · have hids := frozen_ids h1
        refine enter (is := is) (run_call ho (hG _ _ _ h2).1) h2 hids (frozen_sound S (fun b hb => hb.sub) hargs h1 (MutBut.not S hids)) fun v w' h5 S' => ?_
        exact ret (w1 := w') (M := fun _ => False) (is := []) S' (h5.scalar h3) h4
      · have hids := frozen_ids h1
        refine enter (is := is) (run_call ho (hG _ _ _ h2).1) h2 hids (frozen_sound S (fun b hb => hb.sub) hargs h1 (MutBut.not S hids)) fun v w' h5 S' => ?_
        refine ret (w1 := w') (M := fun _ => False) (is := []) (S'.forgets is) (h5.step (Leaves.refl _ _) fun k _ hm => ?_) h3
        rcases hm with hm | ⟨id, o, h6, h7⟩
        · exact .inl hm
        · obtain ⟨h8, o', h9⟩ := fdels_sub is h6
          exact .inr ⟨id, o', h8, h9, h7⟩
    · cases hc
  case callV mode x args =>
    simp only [exF] at hx
    obtain ⟨c, f, first, cap, is, h1, h2, h3⟩ := hx
    dsimp only at hc
    split at hc
    · rename_i y as ts ho
      simp only [Bool.and_eq_true] at hc
      obtain ⟨hy, hargs⟩ := hc
      have hcell := S.cell hy h1
      have hid1 := freezeC_ids depth c _ _ h2
      have run : ∀ {M : Nat → Prop} {xs : List Value} {ds : List DV}, (∀ b, M b → Mut M0 μ h b) → (∀ id ∈ is, ∀ b, blkOf (μ id) = some b → ¬ M b) → Fit P f → All2 (RDV M w) ds (as.toList.map a.eval) →
          ∃ xs : List Value, (execOp a.eval o).run P w = .ok (.enter f xs.toArray) w ∧ All2 (RDV M w) (first ++ ds ++ cap.map (fun d => (false, [d]))) xs := by
        intro M xs ds hM hn hfit hall
        have hfr := freeze_sound S hM depth c _ is _ h2 hn hcell
        generalize hev : a.eval y = u at hfr
        cases hfr with
        | fn _ _ _ us vs hl hf' hc' =>
          refine ⟨(first.zipIdx.map fun p => mkV p.1.1 ((List.range p.1.2.length).map (us p.2))) ++ as.toList.map a.eval ++ (List.range cap.length).map vs, ?_, ?_⟩
          · have hx : (as.toList.map a.eval).toArray = as.map a.eval := by rw [← Array.toList_map]
            have : as.map (fun x => a.eval x) = (as.toList.map a.eval).toArray := hx.symm
            simp [execOp, ho, resolve, hev, Deferred.ofValue, invoke, hfit _ w]
          · refine (All2.append ?_ hall).append ?_
            · refine All2.of_get (by simp) fun j p u hp hu => ?_
              obtain ⟨b, ds'⟩ := p
              simp only [List.getElem?_map, List.getElem?_zipIdx, hp, Option.map_some, Nat.zero_add, Option.some.injEq] at hu
              subst hu
              refine ⟨(List.range ds'.length).map (us j), All2.of_get (by simp) fun k d u hd hu => ?_, by simpa using hl j b ds' hp, rfl⟩
              have hk := (List.getElem?_eq_some_iff.1 hd).1
              rw [List.getElem?_map, List.getElem?_range hk] at hu
              simp at hu
              subst hu
              exact hf' j b ds' hp k d hd
            · refine All2.of_get (by simp) fun j p u hp hu => ?_
              rw [List.getElem?_map] at hp
              cases hcj : cap[j]? with
              | none => simp [hcj] at hp
              | some d =>
                rw [hcj] at hp
                simp at hp
                subst hp
                have hk := (List.getElem?_eq_some_iff.1 hcj).1
                rw [List.getElem?_map, List.getElem?_range hk] at hu
                simp at hu
                subst hu
                exact ⟨[vs j], ⟨hc' j d hcj, trivial⟩, rfl, rfl⟩
      rcases h3 with ⟨_, rfl, ds, r, h4, h5, h6⟩ | ⟨_, ds, js, r, h4, h5, h6, h7⟩
      · obtain ⟨xs, h8, h9⟩ := run (xs := []) (M := MutBut M0 μ h []) (fun b hb => hb.sub) (by simp) (hG _ _ _ h5).1 ((dvs_sound S hargs h4).mono fun _ _ hr => hr.step (Leaves.refl _ _) fun k _ hm => hm.sub)
        refine enter (is := []) h8 h5 (by simp) h9 fun v w' h10 S' => ?_
        exact ret (w1 := w') (M := fun _ => False) (is := []) S' (h10.step (Leaves.refl _ _) fun k _ hm => mut0 k hm) h6
      · have hids : ∀ id ∈ is ++ js, h id ≠ none := fun id hi => (List.mem_append.1 hi).elim (hid1 id) (frozen_ids h4 id)
        have hnot := MutBut.not S hids
        obtain ⟨xs, h8, h9⟩ := run (xs := []) (M := MutBut M0 μ h (is ++ js)) (fun b hb => hb.sub) (fun id hi => hnot id (List.mem_append_left _ hi)) (hG _ _ _ h5).1 (frozen_sound S (fun b hb => hb.sub) hargs h4 fun id hi => hnot id (List.mem_append_right _ hi))
        refine enter (is := is ++ js) h8 h5 hids h9 fun v w' h10 S' => ?_
        exact ret (w1 := w') (M := fun _ => False) (is := []) S' (h10.scalar h6) h7
    · cases hc
  case callH f args =>
    simp only [exF] at hx
    obtain ⟨x, rest, id, t, sz, es, ds, is, es', rfl, h1, h2, h3, h4, h5, h6⟩ := hx
    dsimp only at hc
    split at hc
    · rename_i g as ts ho
      simp only [Bool.and_eq_true, beq_iff_eq] at hc
      obtain ⟨rfl, hargs⟩ := hc
      have hrun := run_call (a := a) (w := w) ho (hG _ _ _ h5).1
      obtain ⟨k1, k2, k3⟩ := (hG _ _ _ h5).2.2 sz es ds es' rfl rfl
      cases hl : as.toList with
      | nil => rw [hl] at hargs; simp [argsOk] at hargs
      | cons x0 r0 =>
        rw [hl] at hargs hrun
        simp only [argsOk, Bool.and_eq_true] at hargs
        have hcell := S.cell hargs.1 h1
        obtain ⟨_, hv⟩ := hcell
        obtain ⟨o1, xs, o2, o3⟩ := S.heap id _ h2
        have hids := frozen_ids h3
        have hblk : ∀ b, blkOf (μ id) = some b → b < w.heap.size ∧ MutBut M0 μ h is b := fun b hb => ⟨(S.own id _ b h2 hb).2.1, .inr ⟨id, _, h4, h2, hb⟩⟩
        rw [List.map_cons, hv] at hrun
        unfold Oper.wp
        rw [hrun, Oper.upon_enter]
        refine (k3 (MutBut M0 μ h is) w t (μ id) xs (r0.map a.eval) S.frame (fun k hk => S.mut_lt hk.sub) o2 (o3.mono fun _ _ hr => hr.step (Leaves.refl _ _) fun k _ hm => hm.sub) hblk (frozen_sound S (fun b hb => hb.sub) hargs.2 h3 (MutBut.not S hids))).mono ?_
        rintro e' w' ⟨rfl, q1, q2, q3, q4, q5, xs', q6, q7⟩
        refine ⟨⟨μ, _, _, Sim.put (v := .tup []) ?_ hd ⟨[], rfl, trivial⟩, h6⟩, put_defers _ _ _⟩
        have := (S.turn (μ' := μ) (w' := w') (ob' := .arr t sz es') (p := fun _ => false) (chg := fun _ => False) h2 (fun _ _ _ _ => _root_.id) (fun _ => False.elim) (fun _ => ⟨rfl, by simp [Obj.sh, k1]⟩) False.elim (fun _ _ => rfl) q1 q2 q3 q4 q5
          (fun k hk => ⟨.inl hk, Nat.lt_of_lt_of_le (hblk k hk).1 q4⟩) (fun _ _ => ⟨fun cs hcs => (k2 cs hcs).1, xs', by rw [k1]; exact q6, all2_scalar (fun cs hcs => (k2 cs hcs).2) q7⟩)).1
        rwa [fkillE_false, fkill_false] at this
    · cases hc
  case mapSet sz x k y =>
    simp only [exF] at hx
    obtain ⟨id, s, b, cs, q, es, h1, h2, h3, h4, rfl, h5, h6⟩ := hx
    dsimp only at hc
    split at hc
    · rename_i ho
      simp only [Bool.and_eq_true] at hc
      obtain ⟨w', h7, h8⟩ := mapSet_sound S ho hc.1.1.1 hc.1.1.2 hc.1.2 hc.2 h1 h2 h3 h5 h4
      unfold Oper.wp
      rw [h7, Oper.upon_skip]
      exact ⟨⟨μ, _, _, h8.del hd, h6⟩, put_defers _ _ _⟩
    · cases hc
  case callVH x args => exact hx.elim
  all_goals exact plain hc hx
end
end Go.Vi
namespace Go.Vi
open Go.RowKit
set_option linter.unusedVariables false

section
variable (B : Prim) (G : Nat → List DV → R → Prop)
def putX (e : EnvF) (dst : Option Nat) : Option V → EnvF
  | some v => fputo e dst v
  | none => fdelo e dst
theorem getPutX (d : Option Nat) (x : Option V) (e : Env) : (e.putX d x).get = putX e.get d x := by
  cases x with
  | none => exact Env.get_delo d e
  | some v => exact Env.get_puto d v e
def stepF (n : Nat) (o : Oper) (e : EnvF) (h : HeapF) (K : EnvF → HeapF → Prop) : Prop := match o.guard with
  | none => exF B G o.op o.dst e h n K
  | some (t, want) => ∃ g, guardF e t want = some g ∧ ((g = true ∧ exF B G o.op o.dst e h n K) ∨ (g = false ∧ K (putX e o.dst (skipV o.op)) h))

/-- One state behind an operation, that meets what is asked. -/
theorem exF_point {o : Op} {dst : Option Nat} {e : EnvF} {h : HeapF} {n : Nat} {K : EnvF → HeapF → Prop} : exF B G o dst e h n K ↔ ∃ e' h', exF B G o dst e h n (fun x y => x = e' ∧ y = h') ∧ K e' h' := by
  cases o
  case store ag k x y =>
    simp only [exF]
    constructor
    · rintro ⟨c, ag, xs, id, ob, h1, h2, h3, h4, h5⟩
      exact ⟨_, _, ⟨c, ag, xs, id, ob, h1, h2, h3, h4, rfl, rfl⟩, h5⟩
    · rintro ⟨e', h', ⟨c, ag, xs, id, ob, h1, h2, h3, h4, rfl, rfl⟩, h5⟩
      exact ⟨c, ag, xs, id, ob, h1, h2, h3, h4, h5⟩
  case append t sz bytes x y =>
    simp only [exF]
    constructor
    · rintro ⟨d, new, h1, h2, ⟨id, es, h3, h4, h5, h6, h7⟩ | ⟨h3, h4, h5, h6⟩⟩
      · exact ⟨_, _, ⟨d, new, h1, h2, .inl ⟨id, es, h3, h4, h5, h6, rfl, rfl⟩⟩, h7⟩
      · exact ⟨_, _, ⟨d, new, h1, h2, .inr ⟨h3, h4, h5, rfl, rfl⟩⟩, h6⟩
    · rintro ⟨e', h', ⟨d, new, h1, h2, ⟨id, es, h3, h4, h5, h6, rfl, rfl⟩ | ⟨h3, h4, h5, rfl, rfl⟩⟩, h7⟩
      · exact ⟨d, new, h1, h2, .inl ⟨id, es, h3, h4, h5, h6, h7⟩⟩
      · exact ⟨d, new, h1, h2, .inr ⟨h3, h4, h5, h7⟩⟩
  case call mode f args =>
    simp only [exF]
    constructor
    · rintro (⟨h0, ds, r, h1, h2, h3⟩ | ⟨h0, ds, is, r, h1, h2, h3, h4⟩ | ⟨h0, h0', ds, is, r, h1, h2, h3⟩)
      · exact ⟨_, _, .inl ⟨h0, ds, r, h1, h2, rfl, rfl⟩, h3⟩
      · exact ⟨_, _, .inr (.inl ⟨h0, ds, is, r, h1, h2, h3, rfl, rfl⟩), h4⟩
      · exact ⟨_, _, .inr (.inr ⟨h0, h0', ds, is, r, h1, h2, rfl, rfl⟩), h3⟩
    · rintro ⟨e', h', ⟨h0, ds, r, h1, h2, rfl, rfl⟩ | ⟨h0, ds, is, r, h1, h2, h3, rfl, rfl⟩ | ⟨h0, h0', ds, is, r, h1, h2, rfl, rfl⟩, hk⟩
      · exact .inl ⟨h0, ds, r, h1, h2, hk⟩
      · exact .inr (.inl ⟨h0, ds, is, r, h1, h2, h3, hk⟩)
      · exact .inr (.inr ⟨h0, h0', ds, is, r, h1, h2, hk⟩)
  case callV mode x args =>
    simp only [exF]
    constructor
    · rintro ⟨c, f, first, cap, is, h1, h2, ⟨h3, h4, ds, r, h5, h6, h7⟩ | ⟨h3, ds, js, r, h5, h6, h7, h8⟩⟩
      · exact ⟨_, _, ⟨c, f, first, cap, is, h1, h2, .inl ⟨h3, h4, ds, r, h5, h6, rfl, rfl⟩⟩, h7⟩
      · exact ⟨_, _, ⟨c, f, first, cap, is, h1, h2, .inr ⟨h3, ds, js, r, h5, h6, h7, rfl, rfl⟩⟩, h8⟩
    · rintro ⟨e', h', ⟨c, f, first, cap, is, h1, h2, ⟨h3, h4, ds, r, h5, h6, rfl, rfl⟩ | ⟨h3, ds, js, r, h5, h6, h7, rfl, rfl⟩⟩, hk⟩
      · exact ⟨c, f, first, cap, is, h1, h2, .inl ⟨h3, h4, ds, r, h5, h6, hk⟩⟩
      · exact ⟨c, f, first, cap, is, h1, h2, .inr ⟨h3, ds, js, r, h5, h6, h7, hk⟩⟩
  case callH f args =>
    simp only [exF]
    constructor
    · rintro ⟨x, rest, id, t, sz, es, ds, is, es', h1, h2, h3, h4, h5, h6, h7⟩
      exact ⟨_, _, ⟨x, rest, id, t, sz, es, ds, is, es', h1, h2, h3, h4, h5, h6, rfl, rfl⟩, h7⟩
    · rintro ⟨e', h', ⟨x, rest, id, t, sz, es, ds, is, es', h1, h2, h3, h4, h5, h6, rfl, rfl⟩, h7⟩
      exact ⟨x, rest, id, t, sz, es, ds, is, es', h1, h2, h3, h4, h5, h6, h7⟩
  case mapSet sz x k y =>
    simp only [exF]
    constructor
    · rintro ⟨id, s, b, cs, q, es, h1, h2, h3, h4, h5, h6, h7⟩
      exact ⟨_, _, ⟨id, s, b, cs, q, es, h1, h2, h3, h4, h5, h6, rfl, rfl⟩, h7⟩
    · rintro ⟨e', h', ⟨id, s, b, cs, q, es, h1, h2, h3, h4, h5, h6, rfl, rfl⟩, h7⟩
      exact ⟨id, s, b, cs, q, es, h1, h2, h3, h4, h5, h6, h7⟩
  case callVH x args => simp [exF]
  all_goals
    simp only [exF]
    constructor
    · rintro ⟨v, objs, h1, h2⟩
      exact ⟨_, _, ⟨v, objs, h1, rfl, rfl⟩, h2⟩
    · rintro ⟨e', h', ⟨v, objs, h1, rfl, rfl⟩, h2⟩
      exact ⟨v, objs, h1, h2⟩
theorem stepF_point {o : Oper} {e : EnvF} {h : HeapF} {n : Nat} {K : EnvF → HeapF → Prop} : stepF B G n o e h K ↔ ∃ e' h', stepF B G n o e h (fun x y => x = e' ∧ y = h') ∧ K e' h' := by
  unfold stepF
  split
  · exact exF_point B G
  · constructor
    · rintro ⟨b, h1, ⟨h2, h3⟩ | ⟨h2, h3⟩⟩
      · obtain ⟨e', h', h4, h5⟩ := (exF_point B G).1 h3
        exact ⟨e', h', ⟨b, h1, .inl ⟨h2, h4⟩⟩, h5⟩
      · exact ⟨_, _, ⟨b, h1, .inr ⟨h2, rfl, rfl⟩⟩, h3⟩
    · rintro ⟨e', h', ⟨b, h1, ⟨h2, h3⟩ | ⟨h2, rfl, rfl⟩⟩, hk⟩
      · exact ⟨b, h1, .inl ⟨h2, (exF_point B G).2 ⟨e', h', h3, hk⟩⟩⟩
      · exact ⟨b, h1, .inr ⟨h2, hk⟩⟩
theorem stepF_mono {o : Oper} {e : EnvF} {h : HeapF} {n : Nat} {K K' : EnvF → HeapF → Prop} (hk : ∀ e h, K e h → K' e h) (hs : stepF B G n o e h K) : stepF B G n o e h K' := by
  obtain ⟨e', h', h1, h2⟩ := (stepF_point B G).1 hs
  exact (stepF_point B G).2 ⟨e', h', h1, hk _ _ h2⟩
/-- New numbers lie in the operation's own range. -/
theorem exF_dom {o : Op} {dst : Option Nat} {e : EnvF} {h : HeapF} {n : Nat} {e' : EnvF} {h' : HeapF} (hx : exF B G o dst e h n (fun x y => x = e' ∧ y = h')) : ∀ id, h' id ≠ none → h id ≠ none ∨ (n ≤ id ∧ id < n + o.fresh) := by
  have kn : ∀ {p : C → Bool} {id : Nat}, fkill h p id ≠ none → h id ≠ none := by
    intro p id hi hn
    simp [fkill, hn] at hi
  have nw : ∀ {objs : List Obj} {k : Nat} {id : Nat}, objs.length ≤ k → fnew h n objs id ≠ none → h id ≠ none ∨ (n ≤ id ∧ id < n + k) := by
    intro objs k id hl hi
    obtain ⟨o, ho⟩ := Option.ne_none_iff_exists'.1 hi
    rcases fnew_inv ho with h1 | ⟨j, rfl, h1⟩
    · exact .inl (by simp [h1])
    · have := (List.getElem?_eq_some_iff.1 h1).1
      exact .inr ⟨by omega, by omega⟩
  cases o
  case store ag k x y =>
    simp only [exF] at hx
    obtain ⟨c, ag, xs, id, ob, h1, h2, h3, h4, rfl, rfl⟩ := hx
    intro j hj
    unfold fset at hj
    split at hj
    · rename_i he
      subst he
      refine .inl ?_
      unfold writeAt at h4
      repeat' split at h4
      all_goals first | (cases h4; done) | (cases h4; simp_all)
    · exact .inl hj
  case append t sz bytes x y =>
    simp only [exF] at hx
    obtain ⟨d, new, h1, h2, ⟨id, es, h3, h4, h5, h6, rfl, rfl⟩ | ⟨h3, h4, h5, rfl, rfl⟩⟩ := hx
    · intro j hj
      unfold fset at hj
      split at hj
      · rename_i he
        subst he
        exact .inl (by simp [h4])
      · exact .inl (kn hj)
    · intro j hj
      exact nw (by simp [Op.fresh]) hj
  case call mode f args =>
    simp only [exF] at hx
    rcases hx with ⟨h0, ds, r, h1, h2, rfl, rfl⟩ | ⟨h0, ds, is, r, h1, h2, h3, rfl, rfl⟩ | ⟨h0, h0', ds, is, r, h1, h2, rfl, rfl⟩
    · exact fun j hj => .inl hj
    · exact fun j hj => .inl hj
    · intro j hj
      obtain ⟨o, ho⟩ := Option.ne_none_iff_exists'.1 hj
      obtain ⟨_, o', h3⟩ := fdels_sub is ho
      exact .inl (by simp [h3])
  case callV mode x args =>
    simp only [exF] at hx
    obtain ⟨c, f, first, cap, is, h1, h2, ⟨h3, h4, ds, r, h5, h6, rfl, rfl⟩ | ⟨h3, ds, js, r, h5, h6, h7, rfl, rfl⟩⟩ := hx
    · exact fun j hj => .inl hj
    · exact fun j hj => .inl hj
  case callH f args =>
    simp only [exF] at hx
    obtain ⟨x, rest, id, t, sz, es, ds, is, es', h1, h2, h3, h4, h5, h6, rfl, rfl⟩ := hx
    intro j hj
    unfold fset at hj
    split at hj
    · rename_i he
      subst he
      exact .inl (by simp [h3])
    · exact .inl hj
  case mapSet sz x k y =>
    simp only [exF] at hx
    obtain ⟨id, s, b, cs, q, es, h1, h2, h3, h4, h5, h6, rfl, rfl⟩ := hx
    intro j hj
    unfold fset at hj
    split at hj
    · rename_i he
      subst he
      exact .inl (by simp [h4])
    · exact .inl hj
  case callVH x args => simp [exF] at hx
  all_goals
    simp only [exF] at hx
    obtain ⟨v, objs, h1, rfl, rfl⟩ := hx
    exact fun j hj => nw (opF_fresh B h1) hj
theorem stepF_dom {o : Oper} {e : EnvF} {h : HeapF} {n : Nat} {e' : EnvF} {h' : HeapF} (hx : stepF B G n o e h (fun x y => x = e' ∧ y = h')) : ∀ id, h' id ≠ none → h id ≠ none ∨ (n ≤ id ∧ id < n + o.op.fresh) := by
  unfold stepF at hx
  split at hx
  · exact exF_dom B G hx
  · obtain ⟨b, _, ⟨_, h1⟩ | ⟨_, rfl, rfl⟩⟩ := hx
    · exact exF_dom B G h1
    · exact fun id hi => .inl hi
end

/-- The machine's operation, with its place and its guard. -/
def chkOper (P : Program) (N : Nat) (mops : Array Go.Oper) (mo : Go.Oper) (o : Oper) : Bool := decide (mo.dst = o.dst) && dstOk N o.dst && chkOp P mo o.op && (match mo.guard, o.guard with
  | none, none => true
  | some (j, want), some (t, want') => want == want' && decide ((mops[j]?).bind (·.dst) = some t)
  | _, _ => false)

section
variable {P : Program} {w0 : World} {B0 M0 : Nat → Prop} {N : Nat} {μ μ' : Nat → Value} {e : EnvF} {h : HeapF} {a : Act} {w w' : World} {n : Nat} {G : Nat → List DV → R → Prop} {Q : Exit → Act → World → Prop} {mops : Array Go.Oper}

theorem stepF_sound (S : Sim w0 B0 M0 N μ e h a w) {mo : Go.Oper} {o : Oper} {i : Nat} {K : EnvF → HeapF → Prop} {K' : Act → World → Prop} (hi : mops[i]? = some mo) (hc : chkOper P N mops mo o = true) (hG : Known P G w0 B0)
    (hf : ∀ id, n ≤ id → id < n + o.op.fresh → h id = none) (hx : stepF prims G n o e h K) (hk : ∀ a' w', At w0 B0 M0 N K a' w' → a'.defers = a.defers → K' a' w') : wpOp P mops Q i K' a w := by
  unfold chkOper at hc
  simp only [Bool.and_eq_true, decide_eq_true_eq] at hc
  obtain ⟨⟨⟨h1, h2⟩, h3⟩, h4⟩ := hc
  rw [← h1] at h2
  unfold stepF at hx
  rw [← h1] at hx
  unfold wpOp
  rw [hi]
  dsimp only
  split at h4
  · rename_i hg hg'
    rw [hg'] at hx
    dsimp only at hx
    have hw : Region.wanted mo (yielded mops a.tmps) = true := by simp [Region.wanted, hg]
    rw [if_pos hw]
    exact .inl (Oper.wp_mono (fun a' w' hh => hk a' w' hh.1 hh.2) (exF_sound S h3 hG h2 hf hx))
  · rename_i j want t want' hg hg'
    rw [hg'] at hx
    dsimp only at hx
    simp only [Bool.and_eq_true, beq_iff_eq, decide_eq_true_eq] at h4
    obtain ⟨rfl, h5⟩ := h4
    obtain ⟨g, h6, h7⟩ := hx
    have hy : Region.wanted mo (yielded mops a.tmps) = g := by
      unfold guardF at h6
      split at h6
      · rename_i b hb
        simp only [Option.some.injEq] at h6
        obtain ⟨u, h8, h9⟩ := S.env t _ (Arg.cell_val (Arg.dat_cell (Arg.bool_dat hb)))
        have := (RV_cell.1 h9 : RD _ _ _ _).bool_eq
        subst this
        have hy : yielded mops a.tmps j = some b := by simp [yielded, h5, h8]
        subst h6
        cases b <;> cases want <;> simp [Region.wanted, hg, hy, beqB]
      · split at h6
        · rename_i hb
          simp only [Option.some.injEq] at h6
          obtain ⟨u, h8, h9⟩ := S.env t _ hb
          obtain ⟨us, rfl, h10⟩ := h9
          have hy : yielded mops a.tmps j = none := by simp [yielded, h5, h8]
          subst h6
          simp [Region.wanted, hg, hy]
        · cases h6
    rcases h7 with ⟨rfl, h8⟩ | ⟨rfl, h8⟩
    · rw [if_pos hy]
      exact .inl (Oper.wp_mono (fun a' w' hh => hk a' w' hh.1 hh.2) (exF_sound S h3 hG h2 hf h8))
    · rw [if_neg (by rw [hy]; simp)]
      refine hk _ _ ⟨μ, _, _, ?_, h8⟩ (put_defers _ _ _)
      generalize o.op = op at h8
      cases op
      case store => exact S.del h2
      all_goals exact S.put h2 (v := nullV) ⟨[], rfl, trivial⟩
  · cases h4

theorem exOps_step {o : Oper} {r : List Oper} {e : Env} {h : Heap} {K : Cont} (hf : Fresh h.get n) (hx : exOps prims G (o :: r) e h n K) :
    stepF prims G n o e.get h.get (fun e' h' => ∃ el hl, e' = el.get ∧ h' = hl.get ∧ Fresh hl.get (n + o.op.fresh) ∧ exOps prims G r el hl (n + o.op.fresh) K) := by
  obtain ⟨dst, op, g⟩ := o
  cases g with
  | none =>
    simp only [exOps] at hx
    exact exF_of_exOp prims G hf hx
  | some tw =>
    obtain ⟨t, want⟩ := tw
    simp only [exOps] at hx
    unfold stepF
    dsimp only
    split at hx
    · rename_i b hb
      refine ⟨beqB b want, by simp [guardF, hb], ?_⟩
      cases b <;> cases want <;> dsimp only at hx
      · exact .inl ⟨rfl, exF_of_exOp prims G hf hx⟩
      · exact .inr ⟨rfl, _, _, (getPutX dst (skipV op) e).symm, rfl, hf.le (by omega), hx⟩
      · exact .inr ⟨rfl, _, _, (getPutX dst (skipV op) e).symm, rfl, hf.le (by omega), hx⟩
      · exact .inl ⟨rfl, exF_of_exOp prims G hf hx⟩
    · rename_i hb
      split at hx
      · rename_i hv
        refine ⟨false, by simp [guardF, hb, hv], .inr ⟨rfl, _, _, (getPutX dst (skipV op) e).symm, rfl, hf.le (by omega), hx⟩⟩
      · exact hx.elim

/-- What holds behind a piece of code. -/
def AtL (w0 : World) (B0 M0 : Nat → Prop) (N : Nat) (K : Env → Heap → Nat → Prop) (a : Act) (w : World) : Prop := ∃ μ e h n, Sim w0 B0 M0 N μ e.get h.get a w ∧ Fresh h.get n ∧ K e h n

/-- **A region in text order,** and what is to come behind. -/
theorem seq_sound_rest (hG : Known P G w0 B0) {K : Cont} (rest : List Nat) (hQ : ∀ a w, AtL w0 B0 M0 N K a w → wpOps P mops Q rest a w) : ∀ (l : List Oper) (k : Nat) (e : Env) (h : Heap) (n : Nat) (μ : Nat → Value) (a : Act) (w : World),
    (∀ j o, l[j]? = some o → ∃ mo, mops[k + j]? = some mo ∧ chkOper P N mops mo o = true) → Sim w0 B0 M0 N μ e.get h.get a w → Fresh h.get n → exOps prims G l e h n K → wpOps P mops Q (List.range' k l.length ++ rest) a w
  | [], k, e, h, n, μ, a, w, _, S, hf, hx => by
    simp only [List.length_nil, List.range'_zero, List.nil_append]
    exact hQ a w ⟨μ, e, h, n, S, hf, hx⟩
  | o :: r, k, e, h, n, μ, a, w, hl, S, hf, hx => by
    obtain ⟨mo, h1, h2⟩ := hl 0 o rfl
    rw [List.length_cons, List.range'_succ, List.cons_append, wpOps_cons]
    refine stepF_sound S (by simpa using h1) h2 hG (fun id h3 _ => hf id h3) (exOps_step hf hx) ?_
    rintro a' w' ⟨μ', e', h', S', el, hl', rfl, rfl, hf', hx'⟩ _
    refine seq_sound_rest hG rest hQ r (k + 1) el hl' _ μ' a' w' (fun j o hj => ?_) S' hf' hx'
    obtain ⟨mo, h3, h4⟩ := hl (j + 1) o (by simpa using hj)
    exact ⟨mo, by rw [← h3]; congr 1; omega, h4⟩
/-- **A region in text order.** -/
theorem seq_sound (hG : Known P G w0 B0) {K : Cont} (hQ : ∀ a w, AtL w0 B0 M0 N K a w → Q .normal a w) (l : List Oper) (k : Nat) (e : Env) (h : Heap) (n : Nat) (μ : Nat → Value) (a : Act) (w : World)
    (hl : ∀ j o, l[j]? = some o → ∃ mo, mops[k + j]? = some mo ∧ chkOper P N mops mo o = true) (S : Sim w0 B0 M0 N μ e.get h.get a w) (hf : Fresh h.get n) (hx : exOps prims G l e h n K) : wpOps P mops Q (List.range' k l.length) a w := by
  have := seq_sound_rest (Q := Q) hG [] (fun a w h => by simpa only [wpOps] using hQ a w h) l k e h n μ a w hl S hf hx
  simpa using this
end
end Go.Vi
namespace Go.Vi
open Go.RowKit
set_option linter.unusedVariables false
set_option linter.unusedSimpArgs false

def ClCap (h : HeapF) : Cap → Prop
  | .d _ => True
  | .loc i _ => h i ≠ none
/-- Its numbers are all told. -/
def ClC (h : HeapF) : C → Prop
  | .d _ => True
  | .own i => h i ≠ none
  | .loc i _ => h i ≠ none
  | .el i _ _ => h i ≠ none
  | .fn _ first cap => (∀ p ∈ first, ∀ c ∈ p.2, ClCap h c) ∧ ∀ c ∈ cap, ClCap h c
  | .lmap i => h i ≠ none
  | .dead => True
def ClV (h : HeapF) : V → Prop
  | .v _ cs => ∀ c ∈ cs, ClC h c
  | .tup vs => ∀ p ∈ vs, ∀ c ∈ p.2, ClC h c
structure Closed (e : EnvF) (h : HeapF) : Prop where
  env : ∀ t v, e t = some v → ClV h v
  blk : ∀ id cs, h id = some (.blk cs) → ∀ c ∈ cs, ClC h c
def Sub (h h' : HeapF) : Prop := ∀ id o, h id = some o → h' id = some o

section
variable {w0 : World} {B0 M0 : Nat → Prop} {N : Nat} {μ : Nat → Value} {e e' : EnvF} {h h' : HeapF} {a : Act} {w : World} {n : Nat} {B : Prim} {G : Nat → List DV → R → Prop}

theorem shapes_ne {id : Nat} {x : Sh} (hs : shapes h id = some x) : h id ≠ none := by
  intro hn
  simp [shapes, hn] at hs
theorem All2.mem_left {α β : Type} {R : α → β → Prop} : ∀ {as : List α} {bs : List β}, All2 R as bs → ∀ a ∈ as, ∃ b, R a b
  | [], [], _, a, ha => by cases ha
  | x :: as, y :: bs, hr, a, ha => by
    rcases List.mem_cons.1 ha with rfl | ha
    · exact ⟨y, hr.1⟩
    · exact All2.mem_left hr.2 a ha
theorem RCap.closed {M : Nat → Prop} {c : Cap} {u : Value} (hr : RCap M w μ (shapes h) c u) : ClCap h c := by
  cases c with
  | d _ => trivial
  | loc i o => exact shapes_ne hr.1
theorem RC.closed {M : Nat → Prop} {c : C} {u : Value} (hr : RC M w μ (shapes h) c u) : ClC h c := by
  cases c with
  | d _ => trivial
  | own i => obtain ⟨⟨_, _, h1⟩, _⟩ := hr; exact shapes_ne h1
  | loc i o => exact shapes_ne hr.1
  | el i j o => obtain ⟨_, _, _, _, h1, _⟩ := hr; exact shapes_ne h1
  | fn f first cap =>
    obtain ⟨fs, cs, h1, h2, _⟩ := hr
    refine ⟨fun p hp c hc => ?_, fun c hc => ?_⟩
    · obtain ⟨us, h3, _⟩ := h1.mem_left p hp
      obtain ⟨u, h4⟩ := h3.mem_left c hc
      exact h4.closed
    · obtain ⟨u, h4⟩ := h2.mem_left c hc
      exact h4.closed
  | lmap i => exact shapes_ne hr.1
  | dead => trivial
theorem RV.closed {M : Nat → Prop} {v : V} {u : Value} (hr : RV M w μ (shapes h) v u) : ClV h v := by
  cases v with
  | v b cs =>
    obtain ⟨us, h1, _⟩ := hr
    intro c hc
    obtain ⟨u, h2⟩ := h1.mem_left c hc
    exact h2.closed
  | tup vs =>
    obtain ⟨us, _, h1⟩ := hr
    intro p hp c hc
    obtain ⟨u, xs, h2, _⟩ := h1.mem_left p hp
    obtain ⟨u, h3⟩ := h2.mem_left c hc
    exact h3.closed
theorem Sim.closed (S : Sim w0 B0 M0 N μ e h a w) : Closed e h := by
  refine ⟨fun t v hv => ?_, fun id cs hi c hc => ?_⟩
  · obtain ⟨u, _, h1⟩ := S.env t v hv
    exact h1.closed
  · obtain ⟨_, _, us, _, _, h1⟩ := S.heap id _ hi
    obtain ⟨u, h2⟩ := h1.mem_left c hc
    exact h2.closed
theorem Closed.val (hc : Closed e h) {x : Arg} {v : V} (hv : x.val e = some v) : ClV h v := by
  cases x with
  | t n => exact hc.env n v hv
  | con d => simp [Arg.val] at hv; subst hv; intro c h; simp at h; subst h; trivial
  | nil => simp [Arg.val] at hv; subst hv; intro c h; simp at h; subst h; trivial
theorem Sub.get (hs : Sub h h') {i : Nat} (hi : h i ≠ none) : h' i = h i := by
  obtain ⟨o, ho⟩ := Option.ne_none_iff_exists'.1 hi
  rw [ho]
  exact hs i o ho

theorem freezeL_congr {f g : C → Option (D × List Nat)} : ∀ {cs : List C}, (∀ c ∈ cs, f c = g c) → freezeL f cs = freezeL g cs
  | [], _ => rfl
  | c :: r, hc => by simp only [freezeL, hc c List.mem_cons_self, freezeL_congr fun x hx => hc x (List.mem_cons_of_mem _ hx)]
theorem freezeCaps_congr {f g : C → Option (D × List Nat)} : ∀ {cs : List Cap}, (∀ c ∈ cs, freezeCap f c = freezeCap g c) → freezeCaps f cs = freezeCaps g cs
  | [], _ => rfl
  | c :: r, hc => by simp only [freezeCaps, hc c List.mem_cons_self, freezeCaps_congr fun x hx => hc x (List.mem_cons_of_mem _ hx)]
theorem freezeFirst_congr {f g : C → Option (D × List Nat)} : ∀ {cs : List (Bool × List Cap)}, (∀ p ∈ cs, ∀ c ∈ p.2, freezeCap f c = freezeCap g c) → freezeFirst f cs = freezeFirst g cs
  | [], _ => rfl
  | (b, c) :: r, hc => by simp only [freezeFirst, freezeCaps_congr (hc (b, c) List.mem_cons_self), freezeFirst_congr fun x hx => hc x (List.mem_cons_of_mem _ hx)]
theorem freezeC_local (hb : ∀ id cs, h id = some (.blk cs) → ∀ c ∈ cs, ClC h c) (hs : Sub h h') : ∀ (k : Nat) (c : C), ClC h c → freezeC k h' c = freezeC k h c := by
  intro k
  induction k with
  | zero => intro c _; cases c <;> rfl
  | succ k ih =>
    have hcap : ∀ c, ClCap h c → freezeCap (freezeC k h') c = freezeCap (freezeC k h) c := by
      intro c hc
      cases c with
      | d _ => rfl
      | loc i o => exact ih (.loc i o) hc
    intro c hc
    cases c with
    | d _ => rfl
    | own i => simp only [freezeC, hs.get hc]
    | lmap i => simp only [freezeC, hs.get hc]
    | loc i o =>
      simp only [freezeC, hs.get hc]
      cases hi : h i with
      | none => rfl
      | some ob =>
        cases ob with
        | blk cs => simp only [freezeL_congr fun c hc => ih c (hb i cs hi c hc)]
        | arr _ _ _ => rfl
        | map _ _ => rfl
        | saved _ _ => rfl
        | lp _ _ _ _ => rfl
    | fn f first cap => simp only [freezeC, freezeFirst_congr fun p hp c hc' => hcap c (hc.1 p hp c hc'), freezeCaps_congr fun c hc' => hcap c (hc.2 c hc')]
    | el _ _ _ => rfl
    | dead => rfl
theorem freezeV_local (hb : ∀ id cs, h id = some (.blk cs) → ∀ c ∈ cs, ClC h c) (hs : Sub h h') {v : V} (hc : ClV h v) : freezeV h' v = freezeV h v := by
  cases v with
  | v b cs => simp only [freezeV, freezeL_congr fun c hcm => freezeC_local hb hs depth c (hc c hcm)]
  | tup _ => rfl

/-- The operands. -/
def Op.args : Op → List Arg
  | .mv x => [x]
  | .newNil _ _ => []
  | .pick c x y => [c, x, y]
  | .arith _ _ x y => [x, y]
  | .cmp _ x y => [x, y]
  | .strOp _ x y => [x, y]
  | .boolEq _ x y => [x, y]
  | .aggEq _ _ x y => [x, y]
  | .errEq _ x => [x]
  | .not x => [x]
  | .neg _ x => [x]
  | .alloc _ => []
  | .box x => [x]
  | .build _ ps => ps.map fun p => p.2.2
  | .buildSlice _ _ ps => ps
  | .buildArr _ _ ps => ps
  | .min xs => xs
  | .max xs => xs
  | .load _ _ x => [x]
  | .store _ _ x y => [x, y]
  | .fieldAddr _ x => [x]
  | .field _ _ _ x => [x]
  | .indexAddr _ x i => [x, i]
  | .indexCells _ _ x i => [x, i]
  | .index _ _ _ x i => [x, i]
  | .indexStr x i => [x, i]
  | .extract x _ => [x]
  | .lenStr x => [x]
  | .len x => [x]
  | .append _ _ _ x y => [x, y]
  | .cutStr x lo hi => x :: lo.toList ++ hi.toList
  | .cut _ x lo hi => x :: lo.toList ++ hi.toList
  | .conv _ x => [x]
  | .strBytes x => [x]
  | .bytesStr x => [x]
  | .mkFn _ xs ys => xs ++ ys
  | .call _ _ xs => xs
  | .callV _ x xs => x :: xs
  | .callH _ xs => xs
  | .callVH x xs => x :: xs
  | .nilCheck x => [x]
  | .makeSlice _ _ _ _ x => [x]
  | .lookup _ _ _ x k => [x, k]
  | .makeMap _ => []
  | .mapSet _ x k y => [x, k, y]

theorem dvs_congr : ∀ {xs : List Arg}, (∀ x ∈ xs, x.val e' = x.val e) → dvs e' xs = dvs e xs
  | [], _ => rfl
  | x :: r, hv => by simp only [dvs, hv x List.mem_cons_self, dvs_congr fun y hy => hv y (List.mem_cons_of_mem _ hy)]
theorem ints_congr : ∀ {xs : List Arg}, (∀ x ∈ xs, x.val e' = x.val e) → ints e' xs = ints e xs
  | [], _ => rfl
  | x :: r, hv => by simp only [ints, Arg.intK, Arg.int, Arg.dat, Arg.cell, hv x List.mem_cons_self, ints_congr fun y hy => hv y (List.mem_cons_of_mem _ hy)]
theorem fillP_congr : ∀ {xs : List (Nat × Nat × Arg)} {cs : List C}, (∀ x ∈ xs, x.2.2.val e' = x.2.2.val e) → fillP e' cs xs = fillP e cs xs
  | [], _, _ => rfl
  | (_, _, x) :: r, cs, hv => by simp only [fillP, hv _ List.mem_cons_self, fillP_congr fun y hy => hv y (List.mem_cons_of_mem _ hy)]
theorem capArgs_congr : ∀ {xs : List Arg}, (∀ x ∈ xs, x.val e' = x.val e) → capArgs e' xs = capArgs e xs
  | [], _ => rfl
  | x :: r, hv => by simp only [capArgs, Arg.cell, hv x List.mem_cons_self, capArgs_congr fun y hy => hv y (List.mem_cons_of_mem _ hy)]
theorem firstArgs_congr : ∀ {xs : List Arg}, (∀ x ∈ xs, x.val e' = x.val e) → firstArgs e' xs = firstArgs e xs
  | [], _ => rfl
  | x :: r, hv => by simp only [firstArgs, hv x List.mem_cons_self, firstArgs_congr fun y hy => hv y (List.mem_cons_of_mem _ hy)]
theorem frozen_local (hb : ∀ id cs, h id = some (.blk cs) → ∀ c ∈ cs, ClC h c) (hs : Sub h h') : ∀ {xs : List Arg}, (∀ x ∈ xs, x.val e' = x.val e) → (∀ x ∈ xs, ∀ v, x.val e = some v → ClV h v) → frozen e' h' xs = frozen e h xs
  | [], _, _ => rfl
  | x :: r, hv, hc => by
    simp only [frozen, hv x List.mem_cons_self, frozen_local hb hs (fun y hy => hv y (List.mem_cons_of_mem _ hy)) (fun y hy => hc y (List.mem_cons_of_mem _ hy))]
    cases hx : x.val e with
    | none => rfl
    | some v => simp only [freezeV_local hb hs (hc x List.mem_cons_self v hx)]
theorem rowOf_local (hb : ∀ id cs, h id = some (.blk cs) → ∀ c ∈ cs, ClC h c) (hs : Sub h h') {sz : Nat} : ∀ {xs : List Arg}, (∀ x ∈ xs, x.val e' = x.val e) → (∀ x ∈ xs, ∀ v, x.val e = some v → ClV h v) → rowOf e' h' sz xs = rowOf e h sz xs
  | [], _, _ => rfl
  | x :: r, hv, hc => by
    simp only [rowOf, hv x List.mem_cons_self, rowOf_local hb hs (fun y hy => hv y (List.mem_cons_of_mem _ hy)) (fun y hy => hc y (List.mem_cons_of_mem _ hy))]
    cases hx : x.val e with
    | none => rfl
    | some v => simp only [freezeV_local hb hs (hc x List.mem_cons_self v hx)]
theorem elems_local (hs : Sub h h') {c : C} (hc : ClC h c) : elems h' c = elems h c := by
  cases c with
  | own i => simp only [elems, hs.get hc]
  | d x => cases x <;> rfl
  | _ => rfl
theorem entries_local (hs : Sub h h') {c : C} {sz : Nat} (hc : ClC h c) : entries h' sz c = entries h sz c := by
  cases c with
  | lmap i => simp only [entries, hs.get hc]
  | d x => cases x <;> rfl
  | _ => rfl
theorem readAt_local (hs : Sub h h') {c : C} {k : Nat} (hc : ClC h c) : readAt B h' c k = readAt B h c k := by
  cases c with
  | loc i o => simp only [readAt, hs.get hc]
  | el i j o => simp only [readAt, hs.get hc]
  | d x => cases x <;> rfl
  | _ => rfl
theorem cell_closed {x : Arg} {c : C} (hc : ∀ v, x.val e = some v → ClV h v) (hx : x.cell e = some c) : ClC h c := hc _ (Arg.cell_val hx) c (by simp)

/-- **An operation looks at its operands, and at what they lead to.** -/
theorem opF_local (hb : ∀ id cs, h id = some (.blk cs) → ∀ c ∈ cs, ClC h c) (hs : Sub h h') {o : Op} (hv : ∀ x ∈ o.args, x.val e' = x.val e) (hc : ∀ x ∈ o.args, ∀ v, x.val e = some v → ClV h v) : opF B e' h' n o = opF B e h n o := by
  have cell : ∀ {x : Arg}, x ∈ o.args → x.cell e' = x.cell e := fun hx => by simp only [Arg.cell, hv _ hx]
  have dat : ∀ {x : Arg}, x ∈ o.args → x.dat e' = x.dat e := fun hx => by simp only [Arg.dat, cell hx]
  have int : ∀ {x : Arg}, x ∈ o.args → x.int e' = x.int e := fun hx => by simp only [Arg.int, dat hx]
  have intK : ∀ {x : Arg} {k : IntKind}, x ∈ o.args → x.intK e' k = x.intK e k := fun hx => by simp only [Arg.intK, int hx]
  have bool : ∀ {x : Arg}, x ∈ o.args → x.bool e' = x.bool e := fun hx => by simp only [Arg.bool, dat hx]
  have str : ∀ {x : Arg}, x ∈ o.args → x.str e' = x.str e := fun hx => by simp only [Arg.str, dat hx]
  have oint : ∀ {x : Option Arg}, (∀ y ∈ x, y ∈ o.args) → Arg.oint e' x = Arg.oint e x := by
    intro x hx
    cases x with
    | none => rfl
    | some y => simp only [Arg.oint, int (hx y rfl)]
  cases o
  case build zs ps => simp only [opF, fillP_congr (e := e) (e' := e') (fun x hx => hv _ (List.mem_map_of_mem hx))]
  case buildSlice t sz ps => simp only [opF, rowOf_local (xs := ps) (sz := sz) hb hs hv hc]
  case buildArr t sz ps => simp only [opF, rowOf_local (xs := ps) (sz := sz) hb hs hv hc]
  case min xs => simp only [opF, ints_congr (xs := xs) hv]
  case max xs => simp only [opF, ints_congr (xs := xs) hv]
  case mkFn f xs ys => simp only [opF, firstArgs_congr fun x hx => hv x (List.mem_append_left _ hx), capArgs_congr fun x hx => hv x (List.mem_append_right _ hx)]
  case load agg k x =>
    have h1 : x ∈ (Op.load agg k x).args := by simp [Op.args]
    simp only [opF, cell h1]
    cases hx : x.cell e with
    | none => rfl
    | some c => simp only [readAt_local hs (cell_closed (hc x h1) hx)]
  case indexAddr sz x i =>
    have h1 : x ∈ (Op.indexAddr sz x i).args := by simp [Op.args]
    have h2 : i ∈ (Op.indexAddr sz x i).args := by simp [Op.args]
    simp only [opF, cell h1, int h2]
    cases hx : x.cell e with
    | none => rfl
    | some c =>
      have := cell_closed (hc x h1) hx
      cases hy : i.int e with
      | none => rfl
      | some kj =>
        obtain ⟨k, j⟩ := kj
        cases c with
        | own id =>
          dsimp only
          rw [hs.get this]
        | d y => cases y <;> rfl
        | _ => rfl
  case makeMap sz => rfl
  case lookup sz ok zs x k =>
    have h1 : x ∈ (Op.lookup sz ok zs x k).args := by simp [Op.args]
    have h2 : k ∈ (Op.lookup sz ok zs x k).args := by simp [Op.args]
    simp only [opF, cell h1, str h2]
    cases hx : x.cell e with
    | none => rfl
    | some c =>
      cases k.str e with
      | none => rfl
      | some s => simp only [entries_local hs (cell_closed (hc x h1) hx)]
  case len x =>
    have h1 : x ∈ (Op.len x).args := by simp [Op.args]
    simp only [opF, cell h1]
    cases hx : x.cell e with
    | none => rfl
    | some c => simp only [elems_local hs (cell_closed (hc x h1) hx)]
  case bytesStr x =>
    have h1 : x ∈ (Op.bytesStr x).args := by simp [Op.args]
    simp only [opF, cell h1]
    cases hx : x.cell e with
    | none => rfl
    | some c => simp only [elems_local hs (cell_closed (hc x h1) hx)]
  case cutStr x lo hi =>
    have h1 : x ∈ (Op.cutStr x lo hi).args := by simp [Op.args]
    simp only [opF, str h1, oint (x := lo) (fun y hy => by simp [Op.args]; simp_all), oint (x := hi) (fun y hy => by simp [Op.args]; simp_all)]
  case cut sz x lo hi =>
    have h1 : x ∈ (Op.cut sz x lo hi).args := by simp [Op.args]
    simp only [opF, dat h1, oint (x := lo) (fun y hy => by simp [Op.args]; simp_all), oint (x := hi) (fun y hy => by simp [Op.args]; simp_all)]
  case mapSet sz x k y => rfl
  all_goals
    simp only [Op.args, List.mem_cons, List.not_mem_nil, or_false, forall_eq_or_imp, forall_eq] at hv
    simp only [opF, Arg.cell, Arg.dat, Arg.int, Arg.intK, Arg.bool, Arg.str, hv]
end
end Go.Vi
namespace Go.Vi
open Go.RowKit
set_option linter.unusedVariables false

/-- It makes no object turn, and forgets none. -/
def Op.quiet : Op → Bool
  | .store _ _ _ _ => false
  | .append _ _ _ _ _ => false
  | .call m _ _ => m == 0 || m == 1
  | .callH _ _ => false
  | .callVH _ _ => false
  | .mapSet _ _ _ _ => false
  | _ => true

section
variable (B : Prim) (G : Nat → List DV → R → Prop)
/-- What a quiet operation yields, and makes anew. -/
def yOp (n : Nat) (e : EnvF) (h : HeapF) (o : Op) (v : V) (objs : List Obj) : Prop := match o with
  | .call mode f args => objs = [] ∧ ((mode = 0 ∧ ∃ ds r, dvs e args = some ds ∧ G f ds r ∧ v = r.v) ∨ (mode = 1 ∧ ∃ ds is r, frozen e h args = some (ds, is) ∧ G f ds r ∧ r.scalar = true ∧ v = r.v))
  | .callV mode x args => objs = [] ∧ ∃ c f first cap is, x.cell e = some c ∧ freezeC depth h c = some (.fn f first cap, is) ∧
      ((mode = 0 ∧ is = [] ∧ ∃ ds r, dvs e args = some ds ∧ G f (first ++ ds ++ cap.map (fun d => (false, [d]))) r ∧ v = r.v) ∨
       (mode ≠ 0 ∧ ∃ ds js r, frozen e h args = some (ds, js) ∧ G f (first ++ ds ++ cap.map (fun d => (false, [d]))) r ∧ r.scalar = true ∧ v = r.v))
  | o => opF B e h n o = some (v, objs)
def yF (n : Nat) (e : EnvF) (h : HeapF) (o : Oper) (x : Option V) (objs : List Obj) : Prop := match o.guard with
  | none => ∃ v, x = some v ∧ yOp B G n e h o.op v objs
  | some (t, want) => ∃ g, guardF e t want = some g ∧ ((g = true ∧ ∃ v, x = some v ∧ yOp B G n e h o.op v objs) ∨ (g = false ∧ x = skipV o.op ∧ objs = []))

theorem exF_y {o : Op} {dst : Option Nat} {e : EnvF} {h : HeapF} {n : Nat} {K : EnvF → HeapF → Prop} (hq : o.quiet = true) : exF B G o dst e h n K ↔ ∃ v objs, yOp B G n e h o v objs ∧ K (fputo e dst v) (fnew h n objs) := by
  cases o
  case store => cases hq
  case append => cases hq
  case callH => cases hq
  case callVH => cases hq
  case mapSet => cases hq
  case call mode f args =>
    simp only [exF, yOp]
    constructor
    · rintro (⟨h0, ds, r, h1, h2, h3⟩ | ⟨h0, ds, is, r, h1, h2, h3, h4⟩ | ⟨h0, h0', ds, is, r, h1, h2, h3⟩)
      · exact ⟨_, [], ⟨rfl, .inl ⟨h0, ds, r, h1, h2, rfl⟩⟩, by rw [fnew_nil]; exact h3⟩
      · exact ⟨_, [], ⟨rfl, .inr ⟨h0, ds, is, r, h1, h2, h3, rfl⟩⟩, by rw [fnew_nil]; exact h4⟩
      · simp [Op.quiet, h0, h0'] at hq
    · rintro ⟨v, objs, ⟨rfl, ⟨h0, ds, r, h1, h2, rfl⟩ | ⟨h0, ds, is, r, h1, h2, h3, rfl⟩⟩, hk⟩
      · exact .inl ⟨h0, ds, r, h1, h2, by rw [fnew_nil] at hk; exact hk⟩
      · exact .inr (.inl ⟨h0, ds, is, r, h1, h2, h3, by rw [fnew_nil] at hk; exact hk⟩)
  case callV mode x args =>
    simp only [exF, yOp]
    constructor
    · rintro ⟨c, f, first, cap, is, h1, h2, ⟨h3, h4, ds, r, h5, h6, h7⟩ | ⟨h3, ds, js, r, h5, h6, h7, h8⟩⟩
      · exact ⟨_, [], ⟨rfl, c, f, first, cap, is, h1, h2, .inl ⟨h3, h4, ds, r, h5, h6, rfl⟩⟩, by rw [fnew_nil]; exact h7⟩
      · exact ⟨_, [], ⟨rfl, c, f, first, cap, is, h1, h2, .inr ⟨h3, ds, js, r, h5, h6, h7, rfl⟩⟩, by rw [fnew_nil]; exact h8⟩
    · rintro ⟨v, objs, ⟨rfl, c, f, first, cap, is, h1, h2, ⟨h3, h4, ds, r, h5, h6, rfl⟩ | ⟨h3, ds, js, r, h5, h6, h7, rfl⟩⟩, hk⟩
      · exact ⟨c, f, first, cap, is, h1, h2, .inl ⟨h3, h4, ds, r, h5, h6, by rw [fnew_nil] at hk; exact hk⟩⟩
      · exact ⟨c, f, first, cap, is, h1, h2, .inr ⟨h3, ds, js, r, h5, h6, h7, by rw [fnew_nil] at hk; exact hk⟩⟩
  all_goals exact Iff.rfl
theorem stepF_y {o : Oper} {e : EnvF} {h : HeapF} {n : Nat} {K : EnvF → HeapF → Prop} (hq : o.op.quiet = true) : stepF B G n o e h K ↔ ∃ x objs, yF B G n e h o x objs ∧ K (putX e o.dst x) (fnew h n objs) := by
  obtain ⟨dst, op, g⟩ := o
  cases g with
  | none =>
    show exF B G op dst e h n K ↔ ∃ x objs, (∃ v, x = some v ∧ yOp B G n e h op v objs) ∧ K (putX e dst x) (fnew h n objs)
    rw [exF_y B G hq]
    constructor
    · rintro ⟨v, objs, h1, h2⟩
      exact ⟨some v, objs, ⟨v, rfl, h1⟩, h2⟩
    · rintro ⟨x, objs, ⟨v, rfl, h1⟩, h2⟩
      exact ⟨v, objs, h1, h2⟩
  | some tw =>
    obtain ⟨t, want⟩ := tw
    show (∃ g, guardF e t want = some g ∧ ((g = true ∧ exF B G op dst e h n K) ∨ (g = false ∧ K (putX e dst (skipV op)) h))) ↔
      ∃ x objs, (∃ g, guardF e t want = some g ∧ ((g = true ∧ ∃ v, x = some v ∧ yOp B G n e h op v objs) ∨ (g = false ∧ x = skipV op ∧ objs = []))) ∧ K (putX e dst x) (fnew h n objs)
    constructor
    · rintro ⟨b, h1, ⟨h2, h3⟩ | ⟨h2, h3⟩⟩
      · obtain ⟨v, objs, h4, h5⟩ := (exF_y B G hq).1 h3
        exact ⟨some v, objs, ⟨b, h1, .inl ⟨h2, v, rfl, h4⟩⟩, h5⟩
      · exact ⟨_, [], ⟨b, h1, .inr ⟨h2, rfl, rfl⟩⟩, by rw [fnew_nil]; exact h3⟩
    · rintro ⟨x, objs, ⟨b, h1, ⟨h2, v, rfl, h4⟩ | ⟨h2, rfl, rfl⟩⟩, hk⟩
      · exact ⟨b, h1, .inl ⟨h2, (exF_y B G hq).2 ⟨v, objs, h4, hk⟩⟩⟩
      · exact ⟨b, h1, .inr ⟨h2, by rw [fnew_nil] at hk; exact hk⟩⟩
end

/-- The slots that are looked at. -/
def Arg.slot : Arg → List Nat
  | .t n => [n]
  | _ => []
def Oper.reads (o : Oper) : List Nat := o.op.args.flatMap Arg.slot ++ match o.guard with
  | some (t, _) => [t]
  | none => []

section
variable {w0 : World} {B0 M0 : Nat → Prop} {N : Nat} {μ : Nat → Value} {e e' : EnvF} {h h' : HeapF} {a : Act} {w : World} {n : Nat} {B : Prim} {G : Nat → List DV → R → Prop}

theorem yOp_local (hb : ∀ id cs, h id = some (.blk cs) → ∀ c ∈ cs, ClC h c) (hs : Sub h h') {o : Op} (hv : ∀ x ∈ o.args, x.val e' = x.val e) (hc : ∀ x ∈ o.args, ∀ v, x.val e = some v → ClV h v) {v : V} {objs : List Obj} :
    yOp B G n e' h' o v objs ↔ yOp B G n e h o v objs := by
  cases o
  case call mode f args => simp only [yOp, dvs_congr (xs := args) hv, frozen_local (xs := args) hb hs hv hc]
  case callV mode x args =>
    have h1 : x.val e' = x.val e := hv x (by simp [Op.args])
    have h2 : ∀ y ∈ args, y.val e' = y.val e := fun y hy => hv y (by simp [Op.args, hy])
    have h3 : ∀ y ∈ args, ∀ v, y.val e = some v → ClV h v := fun y hy => hc y (by simp [Op.args, hy])
    have h4 : x.cell e' = x.cell e := by simp only [Arg.cell, h1]
    simp only [yOp, h4, dvs_congr h2, frozen_local hb hs h2 h3]
    cases hx : x.cell e with
    | none => simp
    | some c =>
      have := freezeC_local hb hs depth c (cell_closed (hc x (by simp [Op.args])) hx)
      simp only [Option.some.injEq, exists_and_left]
      constructor
      · rintro ⟨h5, c', rfl, f, first, cap, is, h6, h7⟩
        exact ⟨h5, c, rfl, f, first, cap, is, by rw [← this]; exact h6, h7⟩
      · rintro ⟨h5, c', rfl, f, first, cap, is, h6, h7⟩
        exact ⟨h5, c, rfl, f, first, cap, is, by rw [this]; exact h6, h7⟩
  all_goals simp only [yOp, opF_local hb hs hv hc]
theorem yF_local (hcl : Closed e h) (hs : Sub h h') {o : Oper} (hv : ∀ t ∈ o.reads, e' t = e t) {x : Option V} {objs : List Obj} : yF B G n e' h' o x objs ↔ yF B G n e h o x objs := by
  have h1 : ∀ y ∈ o.op.args, y.val e' = y.val e := by
    intro y hy
    cases y with
    | t k => exact hv k (List.mem_append_left _ (List.mem_flatMap.2 ⟨.t k, hy, by simp [Arg.slot]⟩))
    | con d => rfl
    | nil => rfl
  have h2 : ∀ y ∈ o.op.args, ∀ v, y.val e = some v → ClV h v := fun y _ v hy => hcl.val hy
  have h3 : ∀ v objs, yOp B G n e' h' o.op v objs ↔ yOp B G n e h o.op v objs := fun v objs => yOp_local hcl.blk hs h1 h2
  unfold yF
  cases hg : o.guard with
  | none => simp only [h3]
  | some tw =>
    obtain ⟨t, want⟩ := tw
    have h4 : guardF e' t want = guardF e t want := by
      simp only [guardF, Arg.bool, Arg.dat, Arg.cell, Arg.val, hv t (List.mem_append_right _ (by rw [hg]; simp))]
    simp only [h3, h4]

theorem putX_other {dst : Option Nat} {x : Option V} {t : Nat} (ht : dst ≠ some t) : putX e dst x t = e t := by
  cases x <;> cases dst <;> simp only [putX, fputo, fdelo, fput, fdel] <;> (rw [if_neg (fun he => ht (by rw [he]))])
theorem putX_comm {d1 d2 : Option Nat} {x y : Option V} (hd : ∀ t, d1 = some t → d2 ≠ some t) : putX (putX e d1 x) d2 y = putX (putX e d2 y) d1 x := by
  have self : ∀ {e : EnvF} {t : Nat} {x : Option V}, putX e (some t) x t = x := by
    intro e t x
    cases x <;> simp [putX, fputo, fdelo, fput, fdel]
  funext t
  by_cases h2 : d2 = some t
  · subst h2
    have h1 : d1 ≠ some t := fun h => hd t h rfl
    rw [self, putX_other h1, self]
  · rw [putX_other h2]
    by_cases h1 : d1 = some t
    · subst h1
      rw [self, self]
    · rw [putX_other h1, putX_other h1, putX_other h2]
theorem fnew_comm {n m : Nat} {xs ys : List Obj} (hd : n + xs.length ≤ m ∨ m + ys.length ≤ n) : fnew (fnew h n xs) m ys = fnew (fnew h m ys) n xs := by
  funext id
  simp only [fnew]
  by_cases h1 : m ≤ id ∧ id < m + ys.length <;> by_cases h2 : n ≤ id ∧ id < n + xs.length
  · omega
  · simp [h1, h2]
  · simp [h1, h2]
  · simp [h1, h2]
theorem yF_fresh {o : Oper} {x : Option V} {objs : List Obj} (hy : yF B G n e h o x objs) : objs.length ≤ o.op.fresh := by
  have key : ∀ v, yOp B G n e h o.op v objs → objs.length ≤ o.op.fresh := by
    intro v hv
    generalize o.op = op at hv
    cases op
    case call => obtain ⟨rfl, _⟩ := hv; exact Nat.zero_le _
    case callV => obtain ⟨rfl, _⟩ := hv; exact Nat.zero_le _
    all_goals exact opF_fresh B hv
  unfold yF at hy
  split at hy
  · obtain ⟨v, _, h1⟩ := hy
    exact key v h1
  · obtain ⟨b, _, ⟨_, v, _, h1⟩ | ⟨_, _, rfl⟩⟩ := hy
    · exact key v h1
    · exact Nat.zero_le _
end

/-! ### the numbers of a region's operations -/
def nsOf : List Oper → Nat → Nat → Nat
  | [], n, _ => n
  | _ :: _, n, 0 => n
  | o :: r, n, k + 1 => nsOf r (n + o.op.fresh) k
theorem nsOf_le : ∀ (l : List Oper) (n k : Nat), n ≤ nsOf l n k
  | [], _, _ => Nat.le_refl _
  | _ :: _, _, 0 => Nat.le_refl _
  | o :: r, n, k + 1 => Nat.le_trans (Nat.le_add_right _ _) (nsOf_le r _ k)
theorem nsOf_lt (l : List Oper) : ∀ (n i j : Nat) (o : Oper), i < j → l[i]? = some o → nsOf l n i + o.op.fresh ≤ nsOf l n j := by
  induction l with
  | nil => intro n i j o _ h; simp at h
  | cons x r ih =>
    intro n i j o hij h
    cases j with
    | zero => omega
    | succ j =>
      cases i with
      | zero =>
        simp at h
        subst h
        exact nsOf_le r _ j
      | succ i => exact ih _ i j o (by omega) (by simpa using h)
theorem nsOf_apart {l : List Oper} {n i j : Nat} {o p : Oper} (hij : i ≠ j) (hi : l[i]? = some o) (hj : l[j]? = some p) : nsOf l n i + o.op.fresh ≤ nsOf l n j ∨ nsOf l n j + p.op.fresh ≤ nsOf l n i := by
  rcases Nat.lt_or_gt_of_ne hij with h | h
  · exact .inl (nsOf_lt l n i j o h hi)
  · exact .inr (nsOf_lt l n j i p h hj)
theorem nsOf_succ (l : List Oper) : ∀ (n i : Nat) (o : Oper), l[i]? = some o → nsOf l n (i + 1) = nsOf l n i + o.op.fresh := by
  induction l with
  | nil => intro n i o h; simp at h
  | cons x r ih =>
    intro n i o h
    cases i with
    | zero =>
      simp at h
      subst h
      cases r <;> rfl
    | succ i => exact ih _ i o (by simpa using h)
end Go.Vi
namespace Go.Vi
open Go.RowKit
set_option linter.unusedVariables false

/-- It looks at its operands alone. -/
def Op.plain : Op → Bool
  | .mv _ => true
  | .arith _ _ _ _ => true
  | .cmp _ _ _ => true
  | .strOp _ _ _ => true
  | .not _ => true
  | .neg _ _ => true
  | .conv _ _ => true
  | .lenStr _ => true
  | .indexStr _ _ => true
  | .fieldAddr _ _ => true
  | _ => false
def Op.isStore : Op → Bool
  | .store _ _ _ _ => true
  | _ => false
def Op.isAppend : Op → Bool
  | .append _ _ _ _ _ => true
  | _ => false
def Op.isMv : Op → Bool
  | .mv _ => true
  | _ => false
/-- What it yields behind an append is what is left of what it yields ahead of it. -/
def Op.light : Op → Bool
  | .mv _ => true
  | .load _ _ _ => true
  | .fieldAddr _ _ => true
  | .nilCheck _ => true
  | .indexAddr _ _ _ => true
  | .cut _ _ _ _ => true
  | .buildSlice _ _ _ => true
  | _ => false

section
variable {w0 : World} {B0 M0 : Nat → Prop} {N : Nat} {μ : Nat → Value} {e e' : EnvF} {h h' : HeapF} {a : Act} {w : World} {n : Nat} {B : Prim} {G : Nat → List DV → R → Prop} {p : C → Bool} {id : Nat} {ob ob' : Obj}

theorem opF_plain {o : Op} (ho : o.plain = true) (hv : ∀ x ∈ o.args, x.val e' = x.val e) {m : Nat} : opF B e' h' m o = opF B e h n o := by
  cases o <;> first | (cases ho; done) | skip
  all_goals
    simp only [Op.args, List.mem_cons, List.not_mem_nil, or_false, forall_eq_or_imp, forall_eq] at hv
    simp only [opF, Arg.cell, Arg.dat, Arg.int, Arg.intK, Arg.bool, Arg.str, hv]
theorem opF_plain_nil {o : Op} (ho : o.plain = true) {v : V} {objs : List Obj} (hx : opF B e h n o = some (v, objs)) : objs = [] := by
  have := opF_fresh B hx
  cases o <;> first | (cases ho; done) | exact List.eq_nil_of_length_eq_zero (Nat.le_zero.1 this)

/-! ### what a kill leaves -/
theorem killL_ofData (hp : ∀ x, p (.d x) = false) : ∀ (ds : List D), killL p (ofData ds) = ofData ds
  | [] => rfl
  | x :: r => by simp [ofData, killL, hp, killL_ofData hp r]
theorem takeL_kill : ∀ (cs : List C) (k : Nat), takeL (killL p cs) k = (takeL cs k).map (killL p)
  | cs, 0 => by cases cs <;> simp [takeL, killL]
  | [], k + 1 => rfl
  | c :: cs, k + 1 => by
    have ih := takeL_kill cs k
    simp only [killL, takeL]
    cases hc : p c <;> simp only [takeL, ih] <;> cases takeL cs k <;> simp [killL, hc]
theorem dropL_kill : ∀ (cs : List C) (k : Nat), dropL (killL p cs) k = killL p (dropL cs k)
  | cs, 0 => by cases cs <;> simp [dropL, killL]
  | [], k + 1 => rfl
  | c :: cs, k + 1 => by
    have ih := dropL_kill cs k
    simp only [killL, dropL]
    cases hc : p c <;> simp only [dropL, ih]
theorem cutL_kill (cs : List C) (o k : Nat) : cutL (killL p cs) o k = (cutL cs o k).map (killL p) := by
  simp only [cutL, dropL_kill, takeL_kill]
theorem val_kill {x : Arg} (hp : ∀ d, p (.d d) = false) (hx : ∀ t ∈ x.slot, e' t = (e t).map (V.kill p)) : x.val e' = (x.val e).map (V.kill p) := by
  cases x with
  | t k => exact hx k (by simp [Arg.slot])
  | con d => simp [Arg.val, V.kill, killL, hp]
  | nil => simp [Arg.val, V.kill, killL, hp]
/-- A cell that is no dead one was there before. -/
theorem cell_kill {x : Arg} (hx : x.val e' = (x.val e).map (V.kill p)) {c : C} (hc : x.cell e' = some c) : c = .dead ∨ (x.cell e = some c ∧ p c = false) := by
  have h1 := Arg.cell_val hc
  rw [hx] at h1
  cases hv : x.val e with
  | none => simp [hv] at h1
  | some v0 =>
    rw [hv] at h1
    simp only [Option.map_some, Option.some.injEq] at h1
    cases v0 with
    | tup vs => simp [V.kill] at h1
    | v b cs =>
      simp only [V.kill, V.v.injEq] at h1
      obtain ⟨rfl, h1⟩ := h1
      match cs, h1 with
      | [c0], h1 =>
        simp only [killL] at h1
        split at h1
        · simp only [List.cons.injEq] at h1
          exact .inl h1.1.symm
        · rename_i hp
          simp only [List.cons.injEq] at h1
          obtain ⟨rfl, _⟩ := h1
          refine .inr ⟨?_, hp⟩
          simp [Arg.cell, hv]
      | [], h1 => simp [killL] at h1
      | c0 :: c1 :: r, h1 =>
        simp only [killL] at h1
        split at h1 <;> split at h1 <;> simp at h1
theorem dat_kill {x : Arg} (hx : x.val e' = (x.val e).map (V.kill p)) {d : D} (hc : x.dat e' = some d) : x.dat e = some d := by
  rcases cell_kill hx (Arg.dat_cell hc) with h1 | ⟨h1, _⟩
  · cases h1
  · simp [Arg.dat, h1]
theorem int_kill {x : Arg} (hx : x.val e' = (x.val e).map (V.kill p)) {k : IntKind} {m : Int} (hc : x.int e' = some (k, m)) : x.int e = some (k, m) := by
  simp [Arg.int, dat_kill hx (Arg.int_dat hc)]
theorem oint_kill {x : Option Arg} (hx : ∀ y ∈ x, y.val e' = (y.val e).map (V.kill p)) {m : Option Int} (hc : Arg.oint e' x = some m) : Arg.oint e x = some m := by
  cases x with
  | none => exact hc
  | some y =>
    simp only [Arg.oint] at hc ⊢
    split at hc
    · rename_i k j hj
      rw [int_kill (hx y rfl) hj]
      exact hc
    · cases hc

/-- Frozen with no object met: the same whatever the objects. -/
theorem freezeCap_none {k : Nat} {c : Cap} {d : D} (hc : freezeCap (freezeC (k + 1) h') c = some (d, [])) : freezeCap (freezeC (k + 1) h) c = some (d, []) := by
  cases c with
  | d x => exact hc
  | loc i o =>
    simp only [freezeCap, freezeC] at hc
    split at hc
    · split at hc
      · simp at hc
      · cases hc
    · cases hc
theorem freezeCap_none0 {c : Cap} {d : D} (hc : freezeCap (freezeC 0 h') c = some (d, [])) : freezeCap (freezeC 0 h) c = some (d, []) := by
  cases c with
  | d x => exact hc
  | loc i o => simp [freezeCap, freezeC] at hc
theorem freezeCaps_none {f g : C → Option (D × List Nat)} (hfg : ∀ c d, freezeCap f c = some (d, []) → freezeCap g c = some (d, [])) : ∀ {cs : List Cap} {ds : List D}, freezeCaps f cs = some (ds, []) → freezeCaps g cs = some (ds, [])
  | [], ds, hc => hc
  | c :: r, ds, hc => by
    simp only [freezeCaps] at hc ⊢
    split at hc
    · rename_i d i hd
      split at hc
      · rename_i ds' is' hr
        simp only [Option.some.injEq, Prod.mk.injEq, List.append_eq_nil_iff] at hc
        obtain ⟨rfl, rfl, rfl⟩ := hc
        rw [hfg c d hd, freezeCaps_none hfg hr]
        rfl
      · cases hc
    · cases hc
theorem freezeFirst_none {f g : C → Option (D × List Nat)} (hfg : ∀ c d, freezeCap f c = some (d, []) → freezeCap g c = some (d, [])) : ∀ {cs : List (Bool × List Cap)} {ds : List (Bool × List D)}, freezeFirst f cs = some (ds, []) → freezeFirst g cs = some (ds, [])
  | [], ds, hc => hc
  | (b, c) :: r, ds, hc => by
    simp only [freezeFirst] at hc ⊢
    split at hc
    · rename_i d i hd
      split at hc
      · rename_i ds' is' hr
        simp only [Option.some.injEq, Prod.mk.injEq, List.append_eq_nil_iff] at hc
        obtain ⟨rfl, rfl, rfl⟩ := hc
        rw [freezeCaps_none hfg hd, freezeFirst_none hfg hr]
        rfl
      · cases hc
    · cases hc
theorem freezeC_none {k : Nat} {c : C} {d : D} (hc : freezeC (k + 1) h' c = some (d, [])) : freezeC (k + 1) h c = some (d, []) := by
  have hcap : ∀ c d, freezeCap (freezeC k h') c = some (d, []) → freezeCap (freezeC k h) c = some (d, []) := by
    intro c d hd
    cases k with
    | zero => exact freezeCap_none0 hd
    | succ k => exact freezeCap_none hd
  cases c with
  | d x => exact hc
  | own i => simp only [freezeC] at hc; split at hc <;> simp at hc
  | lmap i => simp only [freezeC] at hc; split at hc <;> simp at hc
  | loc i o =>
    simp only [freezeC] at hc
    split at hc
    · split at hc
      · simp at hc
      · cases hc
    · cases hc
  | fn f first cap =>
    simp only [freezeC] at hc ⊢
    split at hc
    · rename_i a i b j ha hb
      simp only [Option.some.injEq, Prod.mk.injEq, List.append_eq_nil_iff] at hc
      obtain ⟨rfl, rfl, rfl⟩ := hc
      rw [freezeFirst_none hcap ha, freezeCaps_none hcap hb]
      rfl
    · cases hc
  | el _ _ _ => simp [freezeC] at hc
  | dead => simp [freezeC] at hc
theorem freezeL_kill {k : Nat} : ∀ {cs : List C} {ds : List D}, freezeL (freezeC (k + 1) h') (killL p cs) = some (ds, []) → freezeL (freezeC (k + 1) h) cs = some (ds, [])
  | [], ds, hc => hc
  | c :: r, ds, hc => by
    simp only [killL] at hc
    split at hc
    · simp [freezeL, freezeC] at hc
    · simp only [freezeL] at hc ⊢
      split at hc
      · rename_i d i hd
        split at hc
        · rename_i ds' is' hr
          simp only [Option.some.injEq, Prod.mk.injEq, List.append_eq_nil_iff] at hc
          obtain ⟨rfl, rfl, rfl⟩ := hc
          rw [freezeC_none hd, freezeL_kill hr]
          rfl
        · cases hc
      · cases hc
theorem rowOf_kill {sz : Nat} : ∀ {xs : List Arg} {es : List (List D)}, (∀ x ∈ xs, x.val e' = (x.val e).map (V.kill p)) → rowOf e' h' sz xs = some (es, []) → rowOf e h sz xs = some (es, [])
  | [], es, _, hc => hc
  | x :: r, es, hv, hc => by
    simp only [rowOf, hv x List.mem_cons_self] at hc ⊢
    cases hx : x.val e with
    | none => simp [hx] at hc
    | some v0 =>
      rw [hx] at hc
      simp only [Option.map_some] at hc
      cases v0 with
      | tup vs => simp [V.kill, freezeV] at hc
      | v b cs =>
        simp only [V.kill, freezeV] at hc ⊢
        cases hfz : freezeL (freezeC depth h') (killL p cs) with
        | none => simp [hfz] at hc
        | some di =>
          obtain ⟨ds, i⟩ := di
          simp only [hfz] at hc
          split at hc
          · rename_i hlen
            split at hc
            · rename_i es' is' hr
              simp only [Option.some.injEq, Prod.mk.injEq, List.append_eq_nil_iff] at hc
              obtain ⟨rfl, rfl, rfl⟩ := hc
              rw [show freezeL (freezeC depth h) cs = some (ds, []) from freezeL_kill (k := 5) hfz, rowOf_kill (fun y hy => hv y (List.mem_cons_of_mem _ hy)) hr]
              simp [hlen]
            · cases hc
          · cases hc

/-- **Light operations and an append.** -/
theorem light_kill {o : Op} (hl : o.light = true) {t sz : Nat} {es es' : List (List D)} (hid : h id = some (.arr t sz es)) (hv : ∀ x ∈ o.args, x.val e' = (x.val e).map (V.kill (C.isOwn id))) {v : V} {objs : List Obj}
    (hx : opF B e' (fset (fkill h (C.isOwn id)) id (.arr t sz es')) n o = some (v, objs)) : ∃ v0, opF B e h n o = some (v0, []) ∧ objs = [] ∧ v = v0.kill (C.isOwn id) := by
  have hp : ∀ d, C.isOwn id (.d d) = false := fun _ => rfl
  have harr : ∀ {i t' s' es''}, C.isOwn id (.own i) = false → fset (fkill h (C.isOwn id)) id (.arr t sz es') i = some (.arr t' s' es'') → h i = some (.arr t' s' es'') := by
    intro i t' s' es'' hi hh
    simp only [C.isOwn, nbeq, decide_eq_false_iff_not] at hi
    simp only [fset, if_neg hi] at hh
    obtain ⟨o', h1, h2⟩ := fkill_some hh
    cases o' <;> simp [Obj.kill] at h2
    obtain ⟨rfl, rfl, rfl⟩ := h2
    exact h1
  cases o <;> first | (cases hl; done) | skip
  case mv x =>
    have h1 := hv x (by simp [Op.args])
    simp only [opF, h1] at hx ⊢
    cases hv0 : x.val e with
    | none => simp [hv0] at hx
    | some v0 =>
      simp [hv0] at hx
      obtain ⟨rfl, rfl⟩ := hx
      exact ⟨v0, rfl, rfl, rfl⟩
  case load agg k x =>
    have h1 := hv x (by simp [Op.args])
    simp only [opF] at hx ⊢
    split at hx
    · rename_i c hc
      split at hx
      · rename_i cs hcs
        cases hx
        rcases cell_kill h1 hc with rfl | ⟨h2, h3⟩
        · cases hcs
        · rw [h2]
          cases c with
          | d x =>
            have : readAt B h (.d x) k = some cs := by cases x <;> exact hcs
            simp only [this]
            refine ⟨_, rfl, trivial, ?_⟩
            cases x <;> simp only [readAt, reduceCtorEq] at hcs
            split at hcs
            · cases hcs; simp [V.kill, killL_ofData hp]
            · cases hcs
          | loc i o =>
            simp only [readAt] at hcs ⊢
            split at hcs
            · rename_i cs' hi
              have hne : i ≠ id := by
                rintro rfl
                simp [fset] at hi
              simp only [fset, if_neg hne] at hi
              obtain ⟨o', h4, h5⟩ := fkill_some hi
              cases o' <;> simp [Obj.kill] at h5
              subst h5
              rw [cutL_kill] at hcs
              cases hcut : cutL (by assumption) o k with
              | none => simp [hcut] at hcs
              | some r =>
                simp [hcut] at hcs
                subst hcs
                simp only [h4, hcut]
                exact ⟨_, rfl, trivial, rfl⟩
            · cases hcs
          | el i j o =>
            simp only [readAt] at hcs ⊢
            split at hcs
            · rename_i t' s' es'' hi
              have h4 := harr h3 hi
              rw [h4]
              split at hcs
              · rename_i row hrow
                split at hcs
                · rename_i ds hds
                  cases hcs
                  simp only [hrow, hds]
                  exact ⟨_, rfl, trivial, by simp [V.kill, killL_ofData hp]⟩
                · cases hcs
              · cases hcs
            · cases hcs
          | own _ => cases hcs
          | fn _ _ _ => cases hcs
          | lmap _ => cases hcs
          | dead => cases hcs
      · cases hx
    · cases hx
  case fieldAddr off x =>
    have h1 := hv x (by simp [Op.args])
    simp only [opF] at hx ⊢
    split at hx
    · rename_i cs i hc
      rcases cell_kill h1 hc with h2 | ⟨h2, h3⟩
      · cases h2
      · simp only [lift1, Option.some.injEq, Prod.mk.injEq] at hx
        obtain ⟨rfl, rfl⟩ := hx
        rw [h2]
        exact ⟨_, rfl, rfl, rfl⟩
    · rename_i i o hc
      rcases cell_kill h1 hc with h2 | ⟨h2, h3⟩
      · cases h2
      · cases hx
        rw [h2]
        exact ⟨_, rfl, rfl, rfl⟩
    · rename_i i j o hc
      rcases cell_kill h1 hc with h2 | ⟨h2, h3⟩
      · cases h2
      · cases hx
        rw [h2]
        refine ⟨_, rfl, rfl, ?_⟩
        have h4 : C.isOwn id (.el i j (o + off)) = false := h3
        simp [V.kill, killL, h4]
    · cases hx
  case nilCheck x =>
    have h1 := hv x (by simp [Op.args])
    simp only [opF] at hx ⊢
    split at hx
    · rename_i c hc
      rcases cell_kill h1 hc with rfl | ⟨h2, h3⟩
      · cases hx
      · rw [h2]
        split at hx <;> first | (cases hx; done) | (simp only [lift1, Option.some.injEq, Prod.mk.injEq] at hx; obtain ⟨rfl, rfl⟩ := hx; exact ⟨_, rfl, rfl, by simp only [V.kill, killL, h3]⟩)
    · cases hx
  case indexAddr s x i =>
    have h1 := hv x (by simp [Op.args])
    have h1' := hv i (by simp [Op.args])
    simp only [opF] at hx ⊢
    split at hx
    · rename_i c k j hc hj
      rw [int_kill h1' hj]
      rcases cell_kill h1 hc with rfl | ⟨h2, h3⟩
      · cases hx
      · rw [h2]
        cases c with
        | d y =>
          cases y with
          | row s' es'' =>
            simp only at hx ⊢
            split at hx
            · rename_i hs
              split at hx
              · rename_i cs hcs
                simp only [lift1, Option.some.injEq, Prod.mk.injEq] at hx
                obtain ⟨rfl, rfl⟩ := hx
                simp only [hs, hcs]
                exact ⟨_, rfl, trivial, rfl⟩
              · cases hx
            · cases hx
          | _ => cases hx
        | own i' =>
          simp only at hx ⊢
          split at hx
          · rename_i t' s' es'' hi
            rw [harr h3 hi]
            simp only
            split at hx
            · rename_i hs
              split at hx
              · rename_i cs hcs
                cases hx
                simp only [hs, hcs]
                refine ⟨_, rfl, trivial, ?_⟩
                have h4 : C.isOwn id (.el i' j 0) = false := h3
                simp [V.kill, killL, h4]
              · cases hx
            · cases hx
          · cases hx
        | _ => cases hx
    · cases hx
  case cut s x lo hi =>
    have h1 := hv x (by simp [Op.args])
    simp only [opF] at hx ⊢
    split at hx
    · rename_i s' es'' l u hd hlo hhi
      rw [dat_kill h1 hd, oint_kill (fun y hy => hv y (by simp [Op.args]; simp_all)) hlo, oint_kill (fun y hy => hv y (by simp [Op.args]; simp_all)) hhi]
      simp only at hx ⊢
      split at hx
      · rename_i hs
        split at hx
        · rename_i r hr
          simp only [lift1, Option.some.injEq, Prod.mk.injEq] at hx
          obtain ⟨rfl, rfl⟩ := hx
          simp only [hs, hr]
          exact ⟨_, rfl, trivial, rfl⟩
        · cases hx
      · cases hx
    · cases hx
  case buildSlice t' s ps =>
    simp only [opF] at hx ⊢
    split at hx
    · rename_i es'' hr
      cases hx
      rw [rowOf_kill (xs := ps) (fun x hx => hv x hx) hr]
      exact ⟨_, rfl, rfl, rfl⟩
    · cases hx
end
end Go.Vi
namespace Go.Vi
open Go.RowKit
set_option linter.unusedVariables false

def comm (oi oj : Oper) : Bool :=
  (oi.op.quiet && oj.op.quiet) || (oi.op.plain && oj.op.isStore) || (oi.op.isMv && oi.guard.isNone && oj.op.isAppend && oj.guard.isNone) || (oi.op.isAppend && oi.guard.isNone && oj.op.light && oj.guard.isNone)

section
variable {e e1 e2 : EnvF} {h h1 h2 : HeapF} {ni nj : Nat} {B : Prim} {G : Nat → List DV → R → Prop} {oi oj : Oper}

theorem val_same {x : Arg} {e e' : EnvF} (hx : ∀ t ∈ x.slot, e' t = e t) : x.val e' = x.val e := by
  cases x with
  | t k => exact hx k (by simp [Arg.slot])
  | con d => rfl
  | nil => rfl
theorem slot_reads {o : Oper} {x : Arg} (hx : x ∈ o.op.args) {t : Nat} (ht : t ∈ x.slot) : t ∈ o.reads := List.mem_append_left _ (List.mem_flatMap.2 ⟨x, hx, ht⟩)
theorem guard_same {e e' : EnvF} {t : Nat} {want : Bool} (hx : e' t = e t) : guardF e' t want = guardF e t want := by
  simp only [guardF, Arg.bool, Arg.dat, Arg.cell, Arg.val, hx]
theorem fput_other {e : EnvF} {d : Option Nat} {v : V} {t : Nat} (ht : d ≠ some t) : fputo e d v t = e t := putX_other (x := some v) ht
theorem fputo_comm {e : EnvF} {d1 d2 : Option Nat} {v u : V} (hd : ∀ t, d1 = some t → d2 ≠ some t) : fputo (fputo e d1 v) d2 u = fputo (fputo e d2 u) d1 v := putX_comm (x := some v) (y := some u) hd
theorem fputo_delo {e : EnvF} {d1 d2 : Option Nat} {x : Option V} (hd : ∀ t, d1 = some t → d2 ≠ some t) : putX (fdelo e d2) d1 x = fdelo (putX e d1 x) d2 := (putX_comm (x := x) (y := none) hd).symm
theorem fkillE_put {e : EnvF} {d : Option Nat} {v : V} {p : C → Bool} : fkillE (fputo e d v) p = fputo (fkillE e p) d (v.kill p) := by
  cases d with
  | none => rfl
  | some t =>
    funext s
    simp only [fkillE, fputo, fput]
    split <;> rfl

theorem square_quiet (hcl : Closed e h) (hri : ∀ id, ni ≤ id → id < ni + oi.op.fresh → h id = none) (hrj : ∀ id, nj ≤ id → id < nj + oj.op.fresh → h id = none) (hn : ni + oi.op.fresh ≤ nj ∨ nj + oj.op.fresh ≤ ni)
    (hd1 : ∀ d, oi.dst = some d → d ∉ oj.reads ∧ oj.dst ≠ some d) (hd2 : ∀ d, oj.dst = some d → d ∉ oi.reads) (hqi : oi.op.quiet = true) (hqj : oj.op.quiet = true)
    (hi : stepF B G ni oi e h (fun x y => x = e1 ∧ y = h1)) (hj : stepF B G nj oj e1 h1 (fun x y => x = e2 ∧ y = h2)) :
    ∃ e' h', stepF B G nj oj e h (fun x y => x = e' ∧ y = h') ∧ stepF B G ni oi e' h' (fun x y => x = e2 ∧ y = h2) := by
  obtain ⟨x, objs, hy, rfl, rfl⟩ := (stepF_y B G hqi).1 hi
  obtain ⟨y, objs', hy', rfl, rfl⟩ := (stepF_y B G hqj).1 hj
  have hsub : ∀ (n : Nat) (o : Oper) (ys : List Obj), (∀ id, n ≤ id → id < n + o.op.fresh → h id = none) → ys.length ≤ o.op.fresh → Sub h (fnew h n ys) := fun n o ys hr hl id ob hob =>
    fnew_old (fun id h1 h2 => hr id h1 (by omega)) hob
  have hfi := yF_fresh hy
  have hyj := (yF_local hcl (hsub ni oi objs hri hfi) fun t ht => putX_other fun he => (hd1 t he).1 ht).1 hy'
  have hfj := yF_fresh hyj
  have hyi := (yF_local hcl (hsub nj oj objs' hrj hfj) fun t ht => putX_other (x := y) fun he => hd2 t he ht).2 hy
  refine ⟨_, _, (stepF_y B G hqj).2 ⟨y, objs', hyj, rfl, rfl⟩, (stepF_y B G hqi).2 ⟨x, objs, hyi, ?_, ?_⟩⟩
  · exact (putX_comm fun t ht => (hd1 t ht).2).symm
  · exact fnew_comm (by omega)

theorem store_form {o : Oper} (ho : o.op.isStore = true) {n : Nat} {K : EnvF → HeapF → Prop} : stepF B G n o e h K ↔ ∃ T : Option (Nat × Obj),
    (match o.guard with
      | none => ∃ id ob, T = some (id, ob) ∧ exF B G o.op none e h n (fun x y => x = e ∧ y = fset h id ob)
      | some (t, want) => ∃ g, guardF e t want = some g ∧ ((g = true ∧ ∃ id ob, T = some (id, ob) ∧ exF B G o.op none e h n (fun x y => x = e ∧ y = fset h id ob)) ∨ (g = false ∧ T = none))) ∧
    K (fdelo e o.dst) (match T with | some (id, ob) => fset h id ob | none => h) := by
  obtain ⟨dst, op, g⟩ := o
  have key : ∀ K : EnvF → HeapF → Prop, exF B G op dst e h n K ↔ ∃ id ob, exF B G op none e h n (fun x y => x = e ∧ y = fset h id ob) ∧ K (fdelo e dst) (fset h id ob) := by
    intro K
    cases op <;> first | (cases ho; done) | skip
    simp only [exF]
    constructor
    · rintro ⟨c, ag, xs, id, ob, h1, h2, h3, h4, h5⟩
      exact ⟨id, ob, ⟨c, ag, xs, id, ob, h1, h2, h3, h4, rfl, rfl⟩, h5⟩
    · rintro ⟨id, ob, ⟨c, ag, xs, id', ob', h1, h2, h3, h4, _, h6⟩, h5⟩
      exact ⟨c, ag, xs, id', ob', h1, h2, h3, h4, by rw [h6]; exact h5⟩
  have hsk : skipV op = none := by cases op <;> first | (cases ho; done) | rfl
  unfold stepF
  cases g with
  | none =>
    dsimp only
    rw [key]
    constructor
    · rintro ⟨id, ob, h1, h2⟩
      exact ⟨some (id, ob), ⟨id, ob, rfl, h1⟩, h2⟩
    · rintro ⟨T, ⟨id, ob, rfl, h1⟩, h2⟩
      exact ⟨id, ob, h1, h2⟩
  | some tw =>
    obtain ⟨t, want⟩ := tw
    dsimp only
    rw [hsk]
    constructor
    · rintro ⟨b, h1, ⟨h2, h3⟩ | ⟨h2, h3⟩⟩
      · obtain ⟨id, ob, h4, h5⟩ := (key K).1 h3
        exact ⟨some (id, ob), ⟨b, h1, .inl ⟨h2, id, ob, rfl, h4⟩⟩, h5⟩
      · exact ⟨none, ⟨b, h1, .inr ⟨h2, rfl⟩⟩, h3⟩
    · rintro ⟨T, ⟨b, h1, ⟨h2, id, ob, rfl, h4⟩ | ⟨h2, rfl⟩⟩, h5⟩
      · exact ⟨b, h1, .inl ⟨h2, (key K).2 ⟨id, ob, h4, h5⟩⟩⟩
      · exact ⟨b, h1, .inr ⟨h2, h5⟩⟩
theorem store_same {o : Op} (ho : o.isStore = true) {e e' : EnvF} {n : Nat} {id : Nat} {ob : Obj} (hv : ∀ x ∈ o.args, x.val e' = x.val e) (hx : exF B G o none e h n (fun x y => x = e ∧ y = fset h id ob)) : exF B G o none e' h n (fun x y => x = e' ∧ y = fset h id ob) := by
  cases o <;> first | (cases ho; done) | skip
  simp only [Op.args, List.mem_cons, List.not_mem_nil, or_false, forall_eq_or_imp, forall_eq] at hv
  simp only [exF, Arg.cell, hv] at hx ⊢
  obtain ⟨c, ag, xs, id, ob, h1, h2, h3, h4, _, h5⟩ := hx
  exact ⟨c, ag, xs, id, ob, h1, h2, h3, h4, rfl, h5⟩

theorem plain_quiet {o : Op} (ho : o.plain = true) : o.quiet = true := by cases o <;> first | (cases ho; done) | rfl
theorem yOp_plain {o : Op} (ho : o.plain = true) {n : Nat} {v : V} {objs : List Obj} : yOp B G n e h o v objs ↔ opF B e h n o = some (v, objs) := by cases o <;> first | (cases ho; done) | exact Iff.rfl

theorem square_store (hd1 : ∀ d, oi.dst = some d → d ∉ oj.reads ∧ oj.dst ≠ some d) (hd2 : ∀ d, oj.dst = some d → d ∉ oi.reads) (hpi : oi.op.plain = true) (hsj : oj.op.isStore = true)
    (hi : stepF B G ni oi e h (fun x y => x = e1 ∧ y = h1)) (hj : stepF B G nj oj e1 h1 (fun x y => x = e2 ∧ y = h2)) :
    ∃ e' h', stepF B G nj oj e h (fun x y => x = e' ∧ y = h') ∧ stepF B G ni oi e' h' (fun x y => x = e2 ∧ y = h2) := by
  obtain ⟨x, objs, hy, rfl, rfl⟩ := (stepF_y B G (plain_quiet hpi)).1 hi
  have hnil : objs = [] := by
    unfold yF at hy
    split at hy
    · obtain ⟨v, _, h3⟩ := hy
      exact opF_plain_nil hpi ((yOp_plain hpi).1 h3)
    · obtain ⟨b, _, ⟨_, v, _, h3⟩ | ⟨_, _, h3⟩⟩ := hy
      · exact opF_plain_nil hpi ((yOp_plain hpi).1 h3)
      · exact h3
  subst hnil
  rw [fnew_nil] at hj
  have hr : ∀ t ∈ oj.reads, putX e oi.dst x t = e t := fun t ht => putX_other fun he => (hd1 t he).1 ht
  have hv : ∀ y ∈ oj.op.args, y.val e = y.val (putX e oi.dst x) := fun y hy => (val_same fun t ht => hr t (slot_reads hy ht)).symm
  obtain ⟨T, hT, rfl, rfl⟩ := (store_form hsj).1 hj
  refine ⟨_, _, (store_form hsj).2 ⟨T, ?_, rfl, rfl⟩, (stepF_y B G (plain_quiet hpi)).2 ⟨x, [], ?_, ?_, ?_⟩⟩
  · cases hg : oj.guard with
    | none =>
      rw [hg] at hT
      obtain ⟨id, ob, h3, h4⟩ := hT
      exact ⟨id, ob, h3, store_same hsj hv h4⟩
    | some tw =>
      obtain ⟨t, want⟩ := tw
      rw [hg] at hT
      obtain ⟨b, h3, h4⟩ := hT
      have h5 : guardF (putX e oi.dst x) t want = guardF e t want := guard_same (hr t (List.mem_append_right _ (by rw [hg]; simp)))
      refine ⟨b, by rw [← h5]; exact h3, ?_⟩
      rcases h4 with ⟨h6, id, ob, h7, h8⟩ | h6
      · exact .inl ⟨h6, id, ob, h7, store_same hsj hv h8⟩
      · exact .inr h6
  · have hr' : ∀ t ∈ oi.reads, fdelo e oj.dst t = e t := fun t ht => putX_other (x := none) fun he => hd2 t he ht
    have hv' : ∀ y ∈ oi.op.args, y.val (fdelo e oj.dst) = y.val e := fun y hy => val_same fun t ht => hr' t (slot_reads hy ht)
    have h3 : ∀ v objs, yOp B G ni (fdelo e oj.dst) (match T with | some (id, ob) => fset h id ob | none => h) oi.op v objs ↔ yOp B G ni e h oi.op v objs := by
      intro v objs
      rw [yOp_plain hpi, yOp_plain hpi, opF_plain hpi hv']
    unfold yF at hy ⊢
    cases hg : oi.guard with
    | none =>
      rw [hg] at hy
      obtain ⟨v, h4, h5⟩ := hy
      exact ⟨v, h4, (h3 _ _).2 h5⟩
    | some tw =>
      obtain ⟨t, want⟩ := tw
      rw [hg] at hy
      obtain ⟨b, h4, h5⟩ := hy
      have h6 : guardF (fdelo e oj.dst) t want = guardF e t want := guard_same (hr' t (List.mem_append_right _ (by rw [hg]; simp)))
      refine ⟨b, by rw [h6]; exact h4, ?_⟩
      rcases h5 with ⟨h7, v, h8, h9⟩ | h7
      · exact .inl ⟨h7, v, h8, (h3 _ _).2 h9⟩
      · exact .inr h7
  · exact fputo_delo fun t ht => (hd1 t ht).2
  · rw [fnew_nil]

theorem square_mv {di dj : Option Nat} {x : Arg} {t sz bytes : Nat} {a b : Arg} (hd1 : ∀ d, di = some d → (d ∉ a.slot ∧ d ∉ b.slot) ∧ dj ≠ some d) (hd2 : ∀ d, dj = some d → d ∉ x.slot)
    (hi : exF B G (.mv x) di e h ni (fun x y => x = e1 ∧ y = h1)) (hj : exF B G (.append t sz bytes a b) dj e1 h1 nj (fun x y => x = e2 ∧ y = h2)) :
    ∃ e' h', exF B G (.append t sz bytes a b) dj e h nj (fun x y => x = e' ∧ y = h') ∧ exF B G (.mv x) di e' h' ni (fun x y => x = e2 ∧ y = h2) := by
  simp only [exF] at hi hj ⊢
  obtain ⟨v, objs, h3, rfl, rfl⟩ := hi
  have h4 : x.val e = some v ∧ objs = [] := by
    simp only [opF] at h3
    split at h3
    · rename_i v' hv
      simp only [Option.some.injEq, Prod.mk.injEq] at h3
      obtain ⟨rfl, rfl⟩ := h3
      exact ⟨hv, rfl⟩
    · cases h3
  obtain ⟨hxv, rfl⟩ := h4
  rw [fnew_nil] at hj
  have ha : a.cell (fputo e di v) = a.cell e := by simp only [Arg.cell, val_same (x := a) (fun t ht => fput_other fun he => (hd1 t he).1.1 ht)]
  have hb : b.cell (fputo e di v) = b.cell e := by simp only [Arg.cell, val_same (x := b) (fun t ht => fput_other fun he => (hd1 t he).1.2 ht)]
  rw [ha, hb] at hj
  have mvF : ∀ (e' : EnvF) (h' : HeapF) (u : V), x.val e' = some u → opF B e' h' ni (.mv x) = some (u, []) := by
    intro e' h' u hu
    simp only [opF, hu]
  obtain ⟨d, new, h5, h6, ⟨id, es, h7, h8, h9, h10, rfl, rfl⟩ | ⟨rfl, h9, h10, rfl, rfl⟩⟩ := hj
  · refine ⟨_, _, ⟨d, new, h5, h6, .inl ⟨id, es, h7, h8, h9, h10, rfl, rfl⟩⟩, v.kill (C.isOwn id), [], mvF _ _ _ ?_, ?_, ?_⟩
    · have h11 : x.val (fputo (fkillE e (C.isOwn id)) dj (.v false [.own id])) = (x.val e).map (V.kill (C.isOwn id)) := val_kill (fun _ => rfl) fun t ht => fput_other fun he => hd2 t he ht
      rw [h11, hxv]
      rfl
    · rw [fkillE_put]
      exact (fputo_comm fun t ht => (hd1 t ht).2).symm
    · rw [fnew_nil]
  · refine ⟨_, _, ⟨d, new, h5, h6, .inr ⟨rfl, h9, h10, rfl, rfl⟩⟩, v, [], mvF _ _ _ ?_, ?_, ?_⟩
    · rw [val_same (x := x) (fun t ht => fput_other fun he => hd2 t he ht), hxv]
    · exact (fputo_comm fun t ht => (hd1 t ht).2).symm
    · rw [fnew_nil]

theorem exF_light {o : Op} (hl : o.light = true) {dst : Option Nat} {n : Nat} {K : EnvF → HeapF → Prop} : exF B G o dst e h n K ↔ ∃ v objs, opF B e h n o = some (v, objs) ∧ K (fputo e dst v) (fnew h n objs) := by
  cases o <;> first | (cases hl; done) | exact Iff.rfl
theorem light_args {o : Op} (hl : o.light = true) {e' : EnvF} (hv : ∀ x ∈ o.args, x.val e' = x.val e) : True := trivial

theorem square_append (hcl : Closed e h) {di dj : Option Nat} {o : Op} {t sz bytes : Nat} {a b : Arg} (hri : ∀ id, ni ≤ id → id < ni + 1 → h id = none) (hd1 : ∀ d, di = some d → (∀ x ∈ o.args, d ∉ x.slot) ∧ dj ≠ some d) (hd2 : ∀ d, dj = some d → d ∉ a.slot ∧ d ∉ b.slot) (hl : o.light = true)
    (hi : exF B G (.append t sz bytes a b) di e h ni (fun x y => x = e1 ∧ y = h1)) (hj : exF B G o dj e1 h1 nj (fun x y => x = e2 ∧ y = h2)) :
    ∃ e' h', exF B G o dj e h nj (fun x y => x = e' ∧ y = h') ∧ exF B G (.append t sz bytes a b) di e' h' ni (fun x y => x = e2 ∧ y = h2) := by
  obtain ⟨v, objs, h3, rfl, rfl⟩ := (exF_light hl).1 hj
  simp only [exF] at hi
  obtain ⟨d, new, h5, h6, ⟨id, es, h7, h8, h9, h10, rfl, rfl⟩ | ⟨rfl, h9, h10, rfl, rfl⟩⟩ := hi
  · obtain ⟨v0, h11, rfl, rfl⟩ := light_kill (e := e) hl h8 (fun x hx => val_kill (fun _ => rfl) fun t ht => fput_other fun he => (hd1 t he).1 x hx ht) h3
    have ha : a.cell (fputo e dj v0) = a.cell e := by simp only [Arg.cell, val_same (x := a) (fun t ht => fput_other fun he => (hd2 t he).1 ht)]
    have hb : b.cell (fputo e dj v0) = b.cell e := by simp only [Arg.cell, val_same (x := b) (fun t ht => fput_other fun he => (hd2 t he).2 ht)]
    refine ⟨_, _, (exF_light hl).2 ⟨v0, [], h11, rfl, rfl⟩, ?_⟩
    simp only [exF, fnew_nil, ha, hb]
    refine ⟨d, new, h5, h6, .inl ⟨id, es, h7, h8, h9, h10, ?_, ?_⟩⟩
    · rw [fkillE_put]
      exact (fputo_comm fun t ht => (hd1 t ht).2).symm
    · first | rfl | trivial
  · have hsub : Sub h (fnew h ni [.arr t sz new]) := fun id ob hob => fnew_old (fun id h1 h2 => hri id h1 (by simpa using h2)) hob
    have hlocal := opF_local (B := B) (n := nj) (e' := fputo e di (.v false [.own ni])) (h' := fnew h ni [.arr t sz new]) hcl.blk hsub (o := o) (fun x hx => val_same fun t ht => fput_other fun he => (hd1 t he).1 x hx ht) (fun x _ v hv => hcl.val hv)
    rw [hlocal] at h3
    have hnil : objs = [] := by
      have := opF_fresh B h3
      cases o <;> first | (cases hl; done) | exact List.eq_nil_of_length_eq_zero (Nat.le_zero.1 this)
    subst hnil
    have hb : b.cell (fputo e dj v) = b.cell e := by simp only [Arg.cell, val_same (x := b) (fun t ht => fput_other fun he => (hd2 t he).2 ht)]
    refine ⟨_, _, (exF_light hl).2 ⟨v, [], h3, rfl, rfl⟩, ?_⟩
    simp only [exF, fnew_nil, hb]
    refine ⟨d, new, h5, h6, .inr ⟨trivial, h9, h10, ?_, ?_⟩⟩
    · exact (fputo_comm fun t ht => (hd1 t ht).2).symm
    · first | rfl | trivial

/-- **The square.** -/
theorem square (hcl : Closed e h) (hri : ∀ id, ni ≤ id → id < ni + oi.op.fresh → h id = none) (hrj : ∀ id, nj ≤ id → id < nj + oj.op.fresh → h id = none) (hn : ni + oi.op.fresh ≤ nj ∨ nj + oj.op.fresh ≤ ni)
    (hd1 : ∀ d, oi.dst = some d → d ∉ oj.reads ∧ oj.dst ≠ some d) (hd2 : ∀ d, oj.dst = some d → d ∉ oi.reads) (hc : comm oi oj = true)
    (hi : stepF B G ni oi e h (fun x y => x = e1 ∧ y = h1)) (hj : stepF B G nj oj e1 h1 (fun x y => x = e2 ∧ y = h2)) :
    ∃ e' h', stepF B G nj oj e h (fun x y => x = e' ∧ y = h') ∧ stepF B G ni oi e' h' (fun x y => x = e2 ∧ y = h2) := by
  simp only [comm, Bool.or_eq_true, Bool.and_eq_true] at hc
  rcases hc with ((⟨h3, h4⟩ | ⟨h3, h4⟩) | ⟨⟨⟨h3, h4⟩, h5⟩, h6⟩) | ⟨⟨⟨h3, h4⟩, h5⟩, h6⟩
  · exact square_quiet hcl hri hrj hn hd1 hd2 h3 h4 hi hj
  · exact square_store hd1 hd2 h3 h4 hi hj
  · obtain ⟨di, opi, gi⟩ := oi
    obtain ⟨dj, opj, gj⟩ := oj
    cases gi with
    | some _ => simp at h4
    | none =>
      cases gj with
      | some _ => simp at h6
      | none =>
        cases opi <;> first | (cases h3; done) | skip
        cases opj <;> first | (cases h5; done) | skip
        exact square_mv (G := G) (fun d hd => by have := hd1 d hd; simp [Oper.reads, Op.args] at this; exact ⟨this.1, this.2⟩) (fun d hd => by have := hd2 d hd; simp [Oper.reads, Op.args] at this; exact this) hi hj
  · obtain ⟨di, opi, gi⟩ := oi
    obtain ⟨dj, opj, gj⟩ := oj
    cases gi with
    | some _ => simp at h4
    | none =>
      cases gj with
      | some _ => simp at h6
      | none =>
        cases opi <;> first | (cases h3; done) | skip
        exact square_append (G := G) hcl hri (fun d hd => ⟨fun x hx ht => (hd1 d hd).1 (slot_reads (o := ⟨dj, opj, none⟩) hx ht), (hd1 d hd).2⟩) (fun d hd => by have := hd2 d hd; simp [Oper.reads, Op.args] at this; exact this) h5 hi hj
end
end Go.Vi
