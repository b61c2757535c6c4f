/-
  The framework: regions, loops, whole functions.
-/
import Derived.Test.YtkjnedjjdmfpbaaGreatDoorA4
import Derived.RangeFuncRecord
import Derived.OrdersIn
import Derived.Deep.LoopGhost
import Derived.Scope
set_option linter.unusedVariables false
set_option linter.unusedSimpArgs false
set_option linter.unusedSectionVars false
namespace Go.Vi
open Go.RowKit
set_option linter.unusedVariables false

def anyF (G : Nat → List DV → R → Prop) (mops : Array Go.Oper) (vops : List Oper) (n0 : Nat) (K : EnvF → HeapF → Prop) : Nat → Array Bool → EnvF → HeapF → Prop
  | 0, listed, e, h => Region.ready .any mops listed = [] ∧ K e h
  | fuel + 1, listed, e, h => (Region.ready .any mops listed = [] → K e h) ∧
      ∀ i ∈ Region.ready .any mops listed, ∀ o, vops[i]? = some o → stepF prims G (nsOf vops n0 i) o e h (anyF G mops vops n0 K fuel (listed.setIfInBounds i true))

/-- Room for the operations that are to come. -/
def Rooms (vops : List Oper) (n0 : Nat) (listed : Array Bool) (h : HeapF) : Prop := ∀ (j : Nat) (o : Oper), vops[j]? = some o → listed.getD j true = false → ∀ id, nsOf vops n0 j ≤ id → id < nsOf vops n0 j + o.op.fresh → h id = none

/-- Those that wait for number 'i': by way of what has not come up yet. -/
def waitSet (listed : Array Bool) (i : Nat) : List Go.Oper → Nat → List Nat → List Nat
  | [], _, W => W
  | m :: r, j, W => match m.after.toList.any (fun e => Region.binds .any e && (Nat.beq e.on i || (!listed.getD e.on true && has W e.on))) with
    | true => waitSet listed i r (j + 1) (j :: W)
    | false => waitSet listed i r (j + 1) W
inductive Waits (mops : Array Go.Oper) (listed : Array Bool) (i : Nat) : Nat → Prop where
  | one {j : Nat} {m : Go.Oper} {e : Edge} (hm : mops[j]? = some m) (he : e ∈ m.after) (hb : Region.binds .any e = true) (hi : e.on = i) : Waits mops listed i j
  | more {j : Nat} {m : Go.Oper} {e : Edge} (hm : mops[j]? = some m) (he : e ∈ m.after) (hb : Region.binds .any e = true) (hu : listed.getD e.on true = false) (hw : Waits mops listed i e.on) : Waits mops listed i j
def apartV (x y : Oper) : Bool := (match x.dst with
    | some d => !has y.reads d && (match y.dst with
      | some d' => !Nat.beq d' d
      | none => true)
    | none => true) && (match y.dst with
    | some d => !has x.reads d
    | none => true)
/-- Number 'i' may be taken first: whoever may come before it commutes with it. -/
def freeB (mops : Array Go.Oper) (vops : List Oper) (listed : Array Bool) (i : Nat) : Bool := match vops[i]? with
  | none => false
  | some oi => match waitSet listed i mops.toList 0 [] with
    | W => (List.range mops.size).all fun j => Nat.beq j i || listed.getD j true || has W j || match vops[j]? with
      | some oj => comm oi oj && apartV oi oj
      | none => false
def lexV (mops : Array Go.Oper) (vops : List Oper) : Nat → Nat → Array Bool → Bool
  | 0, _, listed => (Region.ready .any mops listed).isEmpty
  | fuel + 1, k, listed => (Region.ready .any mops listed).contains k && freeB mops vops listed k && lexV mops vops fuel (k + 1) (listed.setIfInBounds k true)

section
variable {P : Program} {w0 : World} {B0 M0 : Nat → Prop} {N : Nat} {G : Nat → List DV → R → Prop} {Q : Exit → Act → World → Prop} {mops : Array Go.Oper} {vops : List Oper} {n0 : Nat} {K : EnvF → HeapF → Prop}

theorem has_mem : ∀ {l : List Nat} {s : Nat}, has l s = true ↔ s ∈ l
  | [], s => by simp [has]
  | t :: r, s => by
    simp only [has, nbeq]
    by_cases h : t = s
    · subst h; simp
    · simp [h, has_mem (l := r), fun h' : s = t => h h'.symm, Ne.symm h]
theorem apartV_spec {x y : Oper} (h : apartV x y = true) : (∀ d, x.dst = some d → d ∉ y.reads ∧ y.dst ≠ some d) ∧ (∀ d, y.dst = some d → d ∉ x.reads) := by
  unfold apartV at h
  rw [Bool.and_eq_true] at h
  refine ⟨fun d hd => ?_, fun d hd => ?_⟩
  · have h1 := h.1
    rw [hd] at h1
    dsimp only at h1
    rw [Bool.and_eq_true, Bool.not_eq_true'] at h1
    refine ⟨fun hm => ?_, fun hy => ?_⟩
    · rw [has_mem.2 hm] at h1
      exact absurd h1.1 (by simp)
    · have h2 := h1.2
      rw [hy] at h2
      simp at h2
  · have h1 := h.2
    rw [hd] at h1
    dsimp only at h1
    rw [Bool.not_eq_true'] at h1
    intro hm
    rw [has_mem.2 hm] at h1
    cases h1
theorem waitSet_spec {listed : Array Bool} {i : Nat} : ∀ (l : List Go.Oper) (j : Nat) (W : List Nat), (∀ k, l[k]? = mops[j + k]?) → (∀ k ∈ W, Waits mops listed i k) → ∀ k ∈ waitSet listed i l j W, Waits mops listed i k
  | [], _, W, _, hW, k, hk => hW k hk
  | m :: r, j, W, hl, hW, k, hk => by
    have hm : mops[j]? = some m := by simpa using (hl 0).symm
    have hl' : ∀ k, r[k]? = mops[j + 1 + k]? := fun k => by have := hl (k + 1); simpa [Nat.add_assoc, Nat.add_comm 1 k] using this
    simp only [waitSet] at hk
    split at hk
    · rename_i hany
      refine waitSet_spec r (j + 1) (j :: W) hl' (fun q hq => ?_) k hk
      rcases List.mem_cons.1 hq with rfl | hq
      · obtain ⟨e, he, h1⟩ := List.any_eq_true.1 hany
        simp only [Bool.and_eq_true, Bool.or_eq_true, Bool.not_eq_true'] at h1
        rcases h1.2 with h2 | h2
        · exact .one hm (by simpa using he) h1.1 (Nat.eq_of_beq_eq_true h2)
        · exact .more hm (by simpa using he) h1.1 h2.1 (hW _ (has_mem.1 h2.2))
      · exact hW q hq
    · exact waitSet_spec r (j + 1) W hl' hW k hk
/-- Whoever may come up waits for nobody that has not. -/
theorem Waits.not_ready {listed : Array Bool} {i j : Nat} (hw : Waits mops listed i j) (hj : j ∈ Region.ready .any mops listed) (hi : listed.getD i true = false) : False := by
  obtain ⟨_, mj, hmj, hall⟩ := mem_ready.1 hj
  have key : ∀ {k : Nat}, listed.getD k true = false → listed.getD k false = true → False := by
    intro k h1 h2
    rcases Nat.lt_or_ge k listed.size with h' | h'
    · simp [h'] at h1 h2; rw [h1] at h2; cases h2
    · simp [Array.getElem?_eq_none h'] at h1
  cases hw with
  | one hm he hb h =>
    rw [hmj] at hm
    cases hm
    subst h
    exact key hi (hall _ he hb)
  | more hm he hb hu _ =>
    rw [hmj] at hm
    cases hm
    exact key hu (hall _ he hb)
theorem Waits.step {listed : Array Bool} {i j k : Nat} (hj : j ∈ Region.ready .any mops listed) (hi : listed.getD i true = false) (hw : Waits mops listed i k) : Waits mops (listed.setIfInBounds j true) i k := by
  induction hw with
  | one hm he hb h => exact .one hm he hb h
  | more hm he hb hu hw ih =>
    refine .more hm he hb ?_ ih
    rw [getD_set_ne true]
    · exact hu
    · rintro rfl
      exact hw.not_ready hj hi
/-- Number 'i' may be taken first. -/
def Free (mops : Array Go.Oper) (vops : List Oper) (listed : Array Bool) (i : Nat) (oi : Oper) : Prop := ∀ j oj, vops[j]? = some oj → j < mops.size → j ≠ i → listed.getD j true = false → Waits mops listed i j ∨
  (comm oi oj = true ∧ (∀ d, oi.dst = some d → d ∉ oj.reads ∧ oj.dst ≠ some d) ∧ (∀ d, oj.dst = some d → d ∉ oi.reads))
theorem freeB_spec {listed : Array Bool} {i : Nat} {oi : Oper} (hf : freeB mops vops listed i = true) (hi : vops[i]? = some oi) : Free mops vops listed i oi := by
  intro j oj hj hlt hne hun
  simp only [freeB, hi, List.all_eq_true, List.mem_range] at hf
  have h1 := hf j hlt
  simp only [hj, Bool.or_eq_true, nbeq, decide_eq_true_eq, hne, false_or, hun, Bool.false_eq_true, Bool.and_eq_true] at h1
  rcases h1 with h1 | h1
  · exact .inl (waitSet_spec mops.toList 0 [] (fun k => by simp) (by simp) j (has_mem.1 h1))
  · exact .inr ⟨h1.1, apartV_spec h1.2⟩
theorem Free.step {listed : Array Bool} {i j : Nat} {oi : Oper} (hf : Free mops vops listed i oi) (hj : j ∈ Region.ready .any mops listed) (hi : listed.getD i true = false) : Free mops vops (listed.setIfInBounds j true) i oi := by
  intro k ok hk hlt hne hun
  have hjlt : j < listed.size := by
    have h := (mem_ready.1 hj).1
    rcases Nat.lt_or_ge j listed.size with h' | h'
    · exact h'
    · simp [Array.getElem?_eq_none h'] at h
  have hjk : j ≠ k := by
    rintro rfl
    simp [hjlt] at hun
  rw [getD_set_ne true hjk] at hun
  exact (hf k ok hk hlt hne hun).imp (fun hw => hw.step hj hi) fun h => h

theorem Rooms.step {listed : Array Bool} {h h' : HeapF} {i : Nat} {o : Oper} (hr : Rooms vops n0 listed h) (hi : vops[i]? = some o) (hd : ∀ id, h' id ≠ none → h id ≠ none ∨ (nsOf vops n0 i ≤ id ∧ id < nsOf vops n0 i + o.op.fresh)) (hb : i < listed.size) :
    Rooms vops n0 (listed.setIfInBounds i true) h' := by
  intro j p hj hun id h1 h2
  have hne : i ≠ j := by
    rintro rfl
    simp [hb] at hun
  rw [getD_set_ne true hne] at hun
  by_cases hn : h' id = none
  · exact hn
  · rcases hd id hn with h3 | h3
    · exact absurd (hr j p hj hun id h1 h2) h3
    · rcases nsOf_apart (n := n0) hne hi hj with h4 | h4 <;> omega

theorem ready_lt {listed : Array Bool} {i : Nat} (hi : i ∈ Region.ready .any mops listed) : i < listed.size ∧ listed.getD i true = false := by
  have h := (mem_ready.1 hi).1
  rcases Nat.lt_or_ge i listed.size with h' | h'
  · exact ⟨h', h⟩
  · simp [Array.getElem?_eq_none h'] at h

/-- The machine's operations are the ones that are told. -/
def Told (P : Program) (N : Nat) (mops : Array Go.Oper) (vops : List Oper) : Prop := mops.size = vops.length ∧ ∀ (j : Nat) (o : Oper), vops[j]? = some o → ∃ mo, mops[j]? = some mo ∧ chkOper P N mops mo o = true

theorem anyF_sound (hG : Known P G w0 B0) (hT : Told P N mops vops) : ∀ (fuel : Nat) (listed : Array Bool) (e : EnvF) (h : HeapF) (μ : Nat → Value) (a : Act) (w : World), Sim w0 B0 M0 N μ e h a w → Rooms vops n0 listed h →
    anyF G mops vops n0 K fuel listed e h → (∀ a w, At w0 B0 M0 N K a w → Q .normal a w) → wpAny P .any mops Q fuel listed a w
  | 0, listed, e, h, μ, a, w, S, hr, hx, hQ => ⟨hx.1, hQ a w ⟨μ, e, h, S, hx.2⟩⟩
  | fuel + 1, listed, e, h, μ, a, w, S, hr, hx, hQ => by
    refine ⟨fun h0 => hQ a w ⟨μ, e, h, S, hx.1 h0⟩, fun i hi => ?_⟩
    obtain ⟨hlt, hun⟩ := ready_lt hi
    obtain ⟨_, mo, hmo, _⟩ := mem_ready.1 hi
    have hl : i < vops.length := by rw [← hT.1]; exact (Array.getElem?_eq_some_iff.1 hmo).1
    have ho : vops[i]? = some vops[i] := List.getElem?_eq_getElem hl
    obtain ⟨mo', hmo', hc⟩ := hT.2 i _ ho
    rw [hmo] at hmo'
    cases hmo'
    obtain ⟨e', h', h1, h2⟩ := (stepF_point prims G).1 (hx.2 i hi _ ho)
    refine stepF_sound S hmo hc hG (fun id h3 h4 => hr i _ ho hun id h3 h4) h1 ?_
    rintro a' w' ⟨μ', _, _, S', rfl, rfl⟩ _
    exact anyF_sound hG hT fuel _ _ _ μ' a' w' S' (hr.step ho (stepF_dom prims G h1) hlt) h2 hQ

/-- An operation that stands for one that is told apart. -/
def fakeOp : Oper := ⟨none, .mv (.con (.bool false)), none⟩
def ToldF (P : Program) (N : Nat) (mops : Array Go.Oper) (vops : List Oper) : Prop := ∀ (j : Nat) (o : Oper), vops[j]? = some o → o = fakeOp ∨ ∃ mo, mops[j]? = some mo ∧ chkOper P N mops mo o = true
theorem Told.weak (hT : Told P N mops vops) : ToldF P N mops vops := fun j o h => .inr (hT.2 j o h)
theorem fake_step {B : Prim} {G : Nat → List DV → R → Prop} {n : Nat} {e e' : EnvF} {h h' : HeapF} (hx : stepF B G n fakeOp e h (fun x y => x = e' ∧ y = h')) : e' = e ∧ h' = h := by
  simp only [stepF, fakeOp, exF, opF, Arg.val] at hx
  obtain ⟨v, objs, h1, h2, h3⟩ := hx
  cases h1
  rw [fnew_nil] at h3
  exact ⟨h2.symm, h3.symm⟩
/-- A state that some run meets. -/
def Met (w0 : World) (B0 M0 : Nat → Prop) (N : Nat) (e : EnvF) (h : HeapF) : Prop := ∃ μ a w, Sim w0 B0 M0 N μ e h a w

theorem wpOp_some {i : Nat} {K : Act → World → Prop} {a : Act} {w : World} (h : wpOp P mops (fun _ _ _ => False) i K a w) : ∃ a' w', K a' w' := by
  unfold wpOp at h
  split at h
  · exact ⟨_, _, h⟩
  · rename_i o ho
    split at h
    · rcases h with h | ⟨_, a, w, h⟩
      · unfold Oper.wp at h
        generalize (execOp a.eval o).run P w = r at h
        cases r with
        | ok n w' =>
          cases n <;> simp only [Oper.upon] at h
          case value => exact ⟨_, _, h⟩
          case skip => exact ⟨_, _, h⟩
          case defer => exact ⟨_, _, h⟩
          case enter f args =>
            obtain ⟨e, w'', fr, h1, _⟩ := h []
            cases e with
            | returned v => exact ⟨_, _, h1⟩
            | panicked c => exact h1.elim
            | outgrown =>
              obtain ⟨_, _, h2⟩ := h1
              exact h2.elim
          case row => obtain ⟨v, w'', h1, _⟩ := h default []; exact ⟨_, _, h1⟩
        | halt x w' => cases x <;> simp only [Oper.upon] at h
      · exact h.elim
    · exact ⟨_, _, h⟩
theorem Met.step (hG : Known P G w0 B0) (hT : ToldF P N mops vops) {e e' : EnvF} {h h' : HeapF} {i : Nat} {o : Oper} {n : Nat} (hm : Met w0 B0 M0 N e h) (ho : vops[i]? = some o) (hf : ∀ id, n ≤ id → id < n + o.op.fresh → h id = none)
    (hx : stepF prims G n o e h (fun x y => x = e' ∧ y = h')) : Met w0 B0 M0 N e' h' := by
  obtain ⟨μ, a, w, S⟩ := hm
  rcases hT i o ho with rfl | ⟨mo, hmo, hc⟩
  · obtain ⟨rfl, rfl⟩ := fake_step hx
    exact ⟨μ, a, w, S⟩
  obtain ⟨a', w', μ', _, _, S', rfl, rfl⟩ := wpOp_some (stepF_sound (Q := fun _ _ _ => False) (K' := At w0 B0 M0 N fun x y => x = e' ∧ y = h') S hmo hc hG hf hx fun _ _ h _ => h)
  exact ⟨μ', a', w', S'⟩
theorem Met.closed {e : EnvF} {h : HeapF} (hm : Met w0 B0 M0 N e h) : Closed e h := by
  obtain ⟨μ, a, w, S⟩ := hm
  exact S.closed

/-- **An operation that may come up now may be taken first.** -/
theorem anyF_first (hG : Known P G w0 B0) (hT : ToldF P N mops vops) {i : Nat} {oi : Oper} (hi : vops[i]? = some oi) : ∀ (fuel : Nat) (listed : Array Bool) (e e1 : EnvF) (h h1 : HeapF),
    Met w0 B0 M0 N e h → Rooms vops n0 listed h → Free mops vops listed i oi → i ∈ Region.ready .any mops listed → stepF prims G (nsOf vops n0 i) oi e h (fun x y => x = e1 ∧ y = h1) →
    anyF G mops vops n0 K fuel (listed.setIfInBounds i true) e1 h1 → anyF G mops vops n0 K (fuel + 1) listed e h := by
  intro fuel
  induction fuel with
  | zero =>
    intro listed e e1 h h1 hm hr hf hri hy H
    refine ⟨fun h0 => (by rw [h0] at hri; cases hri), fun j hj o ho => ?_⟩
    by_cases hji : j = i
    · subst hji
      rw [hi] at ho
      cases ho
      exact (stepF_point prims G).2 ⟨e1, h1, hy, H⟩
    · have := ready_mono hj hji
      rw [H.1] at this
      cases this
  | succ fuel ih =>
    intro listed e e1 h h1 hm hr hf hri hy H
    refine ⟨fun h0 => (by rw [h0] at hri; cases hri), fun j hj oj hoj => ?_⟩
    by_cases hji : j = i
    · subst hji
      rw [hi] at hoj
      cases hoj
      exact (stepF_point prims G).2 ⟨e1, h1, hy, H⟩
    · obtain ⟨hjlt, hjun⟩ := ready_lt hj
      obtain ⟨hilt, hiun⟩ := ready_lt hri
      obtain ⟨_, mj, hmj, _⟩ := mem_ready.1 hj
      rcases hf j oj hoj (Array.getElem?_eq_some_iff.1 hmj).1 hji hjun with hw | ⟨hc, hd1, hd2⟩
      · exact (hw.not_ready hj hiun).elim
      · obtain ⟨e2, h2, hj2, H2⟩ := (stepF_point prims G).1 (H.2 j (ready_mono hj hji) oj hoj)
        obtain ⟨e', h', h3, h4⟩ := square hm.closed (fun id h3 h4 => hr i oi hi hiun id h3 h4) (fun id h3 h4 => hr j oj hoj hjun id h3 h4) (nsOf_apart (Ne.symm hji) hi hoj) hd1 hd2 hc hy hj2
        refine (stepF_point prims G).2 ⟨e', h', h3, ih _ _ _ _ _ (hm.step hG hT hoj (fun id h1 h2 => hr j oj hoj hjun id h1 h2) h3) (hr.step hoj (stepF_dom prims G h3) hjlt) (hf.step hj hiun) (ready_mono hri (Ne.symm hji)) h4 ?_⟩
        rw [Array.setIfInBounds_comm _ _ hji]
        exact H2

/-- In the text's order. -/
def chainF (G : Nat → List DV → R → Prop) (vops : List Oper) (n0 : Nat) (K : EnvF → HeapF → Prop) : List Oper → Nat → EnvF → HeapF → Prop
  | [], _, e, h => K e h
  | o :: r, k, e, h => stepF prims G (nsOf vops n0 k) o e h (chainF G vops n0 K r (k + 1))

theorem anyF_lex (hG : Known P G w0 B0) (hT : ToldF P N mops vops) : ∀ (l : List Oper) (k : Nat) (listed : Array Bool) (e : EnvF) (h : HeapF), (∀ j, l[j]? = vops[k + j]?) → lexV mops vops l.length k listed = true → Met w0 B0 M0 N e h → Rooms vops n0 listed h →
    chainF G vops n0 K l k e h → anyF G mops vops n0 K l.length listed e h
  | [], k, listed, e, h, _, hB, _, _, hx => ⟨by simpa [lexV] using hB, hx⟩
  | o :: l, k, listed, e, h, hl, hB, hm, hr, hx => by
    have ho : vops[k]? = some o := by simpa using (hl 0).symm
    simp only [List.length_cons, lexV, Bool.and_eq_true] at hB
    obtain ⟨⟨hrd, hf⟩, hB'⟩ := hB
    have hrd' : k ∈ Region.ready .any mops listed := by simpa using hrd
    obtain ⟨hlt, hun⟩ := ready_lt hrd'
    have rest : ∀ {e' : EnvF} {h' : HeapF}, stepF prims G (nsOf vops n0 k) o e h (fun x y => x = e' ∧ y = h') → chainF G vops n0 K l (k + 1) e' h' → anyF G mops vops n0 K l.length (listed.setIfInBounds k true) e' h' := fun {e' h'} h1 h2 =>
      anyF_lex hG hT l (k + 1) _ e' h' (fun j => by have := hl (j + 1); simpa [Nat.add_assoc, Nat.add_comm 1 j] using this) hB' (hm.step hG hT ho (fun id h1 h2 => hr k o ho hun id h1 h2) h1) (hr.step ho (stepF_dom prims G h1) hlt) h2
    obtain ⟨e', h', h1, h2⟩ := (stepF_point prims G).1 hx
    exact anyF_first hG hT ho l.length listed e e' h h' hm hr (freeB_spec hf ho) hrd' h1 (rest h1 h2)

/-- Lists in the text's order, functions in the text's order. -/
theorem chain_of_exOps {K : Cont} {n0 : Nat} : ∀ (l : List Oper) (k : Nat) (e : Env) (h : Heap), (∀ j, l[j]? = vops[k + j]?) → Fresh h.get (nsOf vops n0 k) → exOps prims G l e h (nsOf vops n0 k) K →
    chainF G vops n0 (fun e' h' => ∃ el hl n, e' = el.get ∧ h' = hl.get ∧ Fresh hl.get n ∧ K el hl n) l k e.get h.get
  | [], k, e, h, _, hf, hx => ⟨e, h, _, rfl, rfl, hf, hx⟩
  | o :: l, k, e, h, hl, hf, hx => by
    have ho : vops[k]? = some o := by simpa using (hl 0).symm
    refine stepF_mono prims G ?_ (exOps_step hf hx)
    rintro e' h' ⟨el, hl', rfl, rfl, hf', hx'⟩
    rw [← nsOf_succ vops n0 k o ho] at hf' hx'
    exact chain_of_exOps l (k + 1) el hl' (fun j => by have := hl (j + 1); simpa [Nat.add_assoc, Nat.add_comm 1 j] using this) hf' hx'

/-- **A region that draws.** -/
theorem any_sound (hm : P.follows .mixedOrders = true) (hG : Known P G w0 B0) (hT : Told P N mops vops) (hB : lexV mops vops vops.length 0 (Array.replicate mops.size false) = true) {K : Cont} {rid : Nat} {n : Nat} {e : Env} {h : Heap} {μ : Nat → Value} {a : Act} {w : World}
    (S : Sim w0 B0 M0 N μ e.get h.get a w) (hf : Fresh h.get n) (hx : exOps prims G vops e h n K) (hQ : ∀ a w, AtL w0 B0 M0 N K a w → Q .normal a w) : (Go.Code.region rid mops true).wp P Q a w := by
  have h0 : nsOf vops n 0 = n := by cases vops <;> rfl
  refine wp_region_any hm ?_
  have S' := S.drew
  have hr : Rooms vops n (Array.replicate mops.size false) h.get := fun j o _ _ id h1 _ => hf id (Nat.le_trans (nsOf_le vops n j) h1)
  rw [hT.1]
  rw [hT.1] at hB hr
  refine anyF_sound hG hT _ _ _ _ μ a _ S' hr (anyF_lex hG hT.weak vops 0 _ _ _ (fun j => by simp) hB ⟨μ, a, _, S'⟩ hr (chain_of_exOps vops 0 e h (fun j => by simp) (by rw [h0]; exact hf) (by rw [h0]; exact hx))) ?_
  rintro a' w' ⟨μ', _, _, S'', el, hl, n', rfl, rfl, hf', hk⟩
  exact hQ a' w' ⟨μ', el, hl, n', S'', hf', hk⟩
end
end Go.Vi
namespace Go.Vi
open Go.RowKit
set_option linter.unusedVariables false

section
variable {w0 : World} {B0 M0 : Nat → Prop} {N : Nat} {μ : Nat → Value} {h : HeapF} {a : Act} {w : World} {n : Nat}

def fupTo (h : HeapF) (n : Nat) : HeapF := fun i => if i < n then h i else none
theorem nblt (a b : Nat) : Nat.blt a b = decide (a < b) := by
  by_cases h : a < b
  · simp [h]
  · simp only [h, decide_false]
    cases hb : Nat.blt a b with
    | false => rfl
    | true => exact absurd (by simpa using hb) h
theorem nble (a b : Nat) : Nat.ble a b = decide (a ≤ b) := by
  by_cases h : a ≤ b
  · simp [h]
  · simp only [h, decide_false]
    cases hb : Nat.ble a b with
    | false => rfl
    | true => exact absurd (Nat.le_of_ble_eq_true hb) h
theorem Heap.get_upTo (n : Nat) : ∀ (h : Heap), (h.upTo n).get = fupTo h.get n
  | [] => by funext j; simp [Heap.upTo, Heap.get, fupTo]
  | (i, o) :: r => by
    have ih := Heap.get_upTo n r
    funext j
    simp only [Heap.upTo, nblt]
    by_cases hi : i < n
    · simp only [hi, decide_true, Heap.get, nbeq, ih, fupTo]
      by_cases hj : i = j
      · subst hj; simp [hi]
      · simp [hj]
    · simp only [hi, decide_false, ih, fupTo, Heap.get, nbeq]
      by_cases hj : i = j
      · subst hj; simp [hi]
      · simp [hj]
theorem Env.clean_get {p : C → Bool} : ∀ {e : Env}, e.clean p = true → ∀ t v, e.get t = some v → v.any p = false
  | [], _, t, v, h => by simp [Env.get] at h
  | (s, x) :: r, hc, t, v, h => by
    simp only [Env.clean] at hc
    split at hc
    · cases hc
    · rename_i hp
      simp only [Env.get, nbeq] at h
      by_cases hs : s = t
      · simp [hs] at h; subst h; exact hp
      · simp [hs] at h; exact Env.clean_get hc t v h
theorem Heap.clean_get {n : Nat} : ∀ {h : Heap}, h.clean n = true → ∀ i cs, h.get i = some (.blk cs) → anyC (C.from n) cs = false
  | [], _, i, cs, h => by simp [Heap.get] at h
  | (j, o) :: r, hc, i, cs, h => by
    simp only [Heap.get, nbeq] at h
    by_cases hj : j = i
    · simp [hj] at h
      subst h
      simp only [Heap.clean] at hc
      split at hc
      · cases hc
      · rename_i hp; exact hp
    · simp [hj] at h
      refine Heap.clean_get (h := r) ?_ i cs h
      cases o with
      | blk cs' =>
        simp only [Heap.clean] at hc
        split at hc
        · cases hc
        · exact hc
      | arr _ _ _ => exact hc
      | map _ _ => exact hc
      | saved _ _ =>
        simp only [Heap.clean] at hc
        split at hc
        · exact hc
        · cases hc
      | lp _ _ _ _ => exact hc
theorem Heap.clean_saved {n : Nat} : ∀ {h : Heap}, h.clean n = true → ∀ i tm se, h.get i = some (.saved tm se) → Env.clean (C.from n) se = true
  | [], _, i, tm, se, h => by simp [Heap.get] at h
  | (j, o) :: r, hc, i, tm, se, h => by
    simp only [Heap.get, nbeq] at h
    by_cases hj : j = i
    · simp [hj] at h
      subst h
      simp only [Heap.clean] at hc
      split at hc
      · assumption
      · cases hc
    · simp [hj] at h
      refine Heap.clean_saved (h := r) ?_ i tm se h
      cases o with
      | blk cs' =>
        simp only [Heap.clean] at hc
        split at hc
        · cases hc
        · exact hc
      | arr _ _ _ => exact hc
      | map _ _ => exact hc
      | saved _ _ =>
        simp only [Heap.clean] at hc
        split at hc
        · exact hc
        · cases hc
      | lp _ _ _ _ => exact hc

theorem Sim.upTo {e e' : EnvF} (S : Sim w0 B0 M0 N μ e h a w) (he : ∀ t v, e' t = some v → e t = some v ∧ v.any (C.from n) = false) (hh : ∀ i cs, i < n → h i = some (.blk cs) → anyC (C.from n) cs = false) (hsv : ∀ i tm se, i < n → h i = some (.saved tm se) → Env.clean (C.from n) se = true) : Sim w0 B0 M0 N μ e' (fupTo h n) a w := by
  have hinv : ∀ j o, fupTo h n j = some o → j < n ∧ h j = some o := by
    intro j o hj
    unfold fupTo at hj
    split at hj
    · rename_i hlt; exact ⟨hlt, hj⟩
    · cases hj
  have hM : ∀ k, k < w.heap.size → Mut M0 μ (fupTo h n) k → Mut M0 μ h k := by
    rintro k _ (h1 | ⟨j, o, h1, h2⟩)
    · exact .inl h1
    · exact .inr ⟨j, o, (hinv j o h1).2, h2⟩
  have hs : ∀ j, n.ble j = false → shapes (fupTo h n) j = shapes h j := by
    intro j hj
    rw [nble] at hj
    simp only [decide_eq_false_iff_not, Nat.not_le] at hj
    simp [shapes, fupTo, hj]
  have hRD : ∀ d v, RD (Mut M0 μ h) w d v → RD (Mut M0 μ (fupTo h n)) w d v := fun d v hr => hr.step (Leaves.refl _ _) hM
  have hcap : ∀ c v, (match c with | .loc i _ => Nat.ble n i | .d _ => false) = false → RCap (Mut M0 μ h) w μ (shapes h) c v → RCap (Mut M0 μ (fupTo h n)) w μ (shapes (fupTo h n)) c v := by
    intro c v hc hr
    cases c with
    | d x => exact hRD x v hr
    | loc j off =>
      obtain ⟨h1, h2⟩ := hr
      exact ⟨by rw [hs j hc]; exact h1, h2⟩
  have hRC : ∀ c v, C.from n c = false → RC (Mut M0 μ h) w μ (shapes h) c v → RC (Mut M0 μ (fupTo h n)) w μ (shapes (fupTo h n)) c v := by
    intro c v hc hr
    cases c with
    | d x => exact hRD x v hr
    | own j =>
      obtain ⟨⟨sz, len, h1⟩, h2⟩ := hr
      exact ⟨⟨sz, len, by rw [hs j hc]; exact h1⟩, h2⟩
    | loc j off =>
      obtain ⟨h1, h2⟩ := hr
      exact ⟨by rw [hs j hc]; exact h1, h2⟩
    | el j k off =>
      obtain ⟨sz, len, g, cap, h1, h2⟩ := hr
      exact ⟨sz, len, g, cap, by rw [hs j hc]; exact h1, h2⟩
    | fn f first cap =>
      simp only [C.from, Bool.or_eq_false_iff] at hc
      obtain ⟨fs, cs, h1, h2, h3⟩ := hr
      have hc1 : ∀ p ∈ first, ∀ c ∈ p.2, (match c with | .loc i _ => Nat.ble n i | .d _ => false) = false := by
        intro p hp c hcm
        cases hq : (match c with | .loc i _ => Nat.ble n i | .d _ => false) with
        | false => rfl
        | true => exact absurd (List.any_eq_true.2 ⟨p, hp, List.any_eq_true.2 ⟨c, hcm, hq⟩⟩) (by rw [hc.1]; simp)
      have hc2 : ∀ c ∈ cap, (match c with | .loc i _ => Nat.ble n i | .d _ => false) = false := by
        intro c hcm
        cases hq : (match c with | .loc i _ => Nat.ble n i | .d _ => false) with
        | false => rfl
        | true => exact absurd (List.any_eq_true.2 ⟨c, hcm, hq⟩) (by rw [hc.2]; simp)
      exact ⟨fs, cs, h1.mono_mem fun p hp us hu => ⟨hu.1.mono_mem fun c hcm u hu => hcap c u (hc1 p hp c hcm) hu, hu.2⟩, h2.mono_mem fun c hcm u hu => hcap c u (hc2 c hcm) hu, h3⟩
    | lmap j =>
      obtain ⟨h1, h2⟩ := hr
      exact ⟨by rw [hs j hc]; exact h1, h2⟩
    | dead => exact hr
  refine ⟨S.tmps, S.defers, ?_, ?_, ?_, ?_, S.old, S.os, S.tape, S.output, S.size, S.frame⟩
  · intro t v hv
    obtain ⟨h1, h2⟩ := he t v hv
    obtain ⟨u, h3, h4⟩ := S.env t v h1
    exact ⟨u, h3, h4.imp h2 hRC⟩
  · intro j o hj
    obtain ⟨hlt, h3⟩ := hinv j o hj
    have h4 := S.heap j o h3
    cases o with
    | blk cs =>
      obtain ⟨g, t, us, h5, h6, h7⟩ := h4
      have hcl := anyC_mem (hh j cs hlt h3)
      exact ⟨g, t, us, h5, h6, h7.mono_mem fun c hc u hr => hRC c u (hcl c hc) hr⟩
    | arr ty sz es =>
      obtain ⟨h5, xs, h6, h7⟩ := h4
      exact ⟨h5, xs, h6, h7.mono hRD⟩
    | map sz es =>
      obtain ⟨r, ents, clock, h5, h6, h7⟩ := h4
      exact ⟨r, ents, clock, h5, h6, h7.step hRD⟩
    | saved tm se =>
      have hcl := Env.clean_get (hsv j tm se hlt h3)
      exact ⟨h4.1, h4.2.1, fun t x hx => let ⟨u, h5, h6⟩ := h4.2.2 t x hx; ⟨u, h5, h6.imp (hcl t x hx) hRC⟩⟩
    | lp l ρ st q => exact h4
  · intro j k o q b hj hk hbj hbk
    exact S.inj j k o q b (hinv j o hj).2 (hinv k q hk).2 hbj hbk
  · intro j o b hj hb
    exact S.own j o b (hinv j o hj).2 hb

theorem tidy_sound {e : Env} {h : Heap} {live : List Nat} {K : Env → Heap → Prop} (S : Sim w0 B0 M0 N μ e.get h.get a w) (hx : tidy live n e h K) :
    Sim w0 B0 M0 N μ (e.keep live).get (h.upTo n).get a w ∧ Fresh (h.upTo n).get n ∧ K (e.keep live) (h.upTo n) := by
  unfold tidy at hx
  split at hx
  · rename_i h1
    split at hx
    · rename_i h2
      refine ⟨?_, ?_, hx⟩
      · have h3 := Heap.clean_get h2
        have h4 := Heap.clean_saved h2
        rw [Heap.get_upTo] at h3 h4 ⊢
        refine S.upTo (fun t v hv => ⟨?_, Env.clean_get h1 t v hv⟩) (fun i cs hi hc => h3 i cs (by simp [fupTo, hi, hc])) fun i tm se hi hc => h4 i tm se (by simp [fupTo, hi, hc])
        rw [Env.get_keep] at hv
        unfold fkeep at hv
        split at hv
        · exact hv
        · cases hv
      · intro i hi
        rw [Heap.get_upTo]
        simp [fupTo, Nat.not_lt.2 hi]
    · exact hx.elim
  · exact hx.elim

/-! ### two objects exchange their numbers -/
theorem swapN_swap (p q i : Nat) : swapN p q (swapN p q i) = i := by
  unfold swapN
  simp only [nbeq]
  by_cases h1 : i = p <;> by_cases h2 : i = q <;> by_cases h3 : q = p <;> simp_all
theorem renCapL_map (p q : Nat) : ∀ l : List Cap, renCapL p q l = l.map (Cap.ren p q)
  | [] => rfl
  | c :: r => by simp [renCapL, renCapL_map p q r]
theorem renL_map (p q : Nat) : ∀ l : List C, renL p q l = l.map (C.ren p q)
  | [] => rfl
  | c :: r => by simp [renL, renL_map p q r]
theorem renFirst_map (p q : Nat) : ∀ l : List (Bool × List Cap), renFirst p q l = l.map fun x => (x.1, x.2.map (Cap.ren p q))
  | [] => rfl
  | (b, cs) :: r => by simp [renFirst, renFirst_map p q r, renCapL_map]
theorem renP_map (p q : Nat) : ∀ l : List (Bool × List C), renP p q l = l.map fun x => (x.1, x.2.map (C.ren p q))
  | [] => rfl
  | (b, cs) :: r => by simp [renP, renP_map p q r, renL_map]
theorem Env.get_ren (p q t : Nat) : ∀ e : Env, (e.ren p q).get t = (e.get t).map (V.ren p q)
  | [] => rfl
  | (s, v) :: r => by
    simp only [Env.ren, Env.get, nbeq]
    by_cases h : s = t
    · simp [h]
    · simp [h, Env.get_ren p q t r]
theorem Heap.get_ren (p q t : Nat) : ∀ h : Heap, (h.ren p q).get t = (h.get t).map (Obj.ren p q)
  | [] => rfl
  | (s, v) :: r => by
    simp only [Heap.ren, Heap.get, nbeq]
    by_cases h : s = t
    · simp [h]
    · simp [h, Heap.get_ren p q t r]
theorem Sim.ren {e : EnvF} {e' : EnvF} {h' : HeapF} {p q : Nat} (S : Sim w0 B0 M0 N μ e h a w) (he : ∀ t, e' t = (e t).map (V.ren p q)) (hh : ∀ i, h' i = (h (swapN p q i)).map (Obj.ren p q)) :
    Sim w0 B0 M0 N (fun i => μ (swapN p q i)) e' h' a w := by
  have inv : ∀ {i o}, h' i = some o → ∃ o', h (swapN p q i) = some o' ∧ o = o'.ren p q := by
    intro i o hi
    rw [hh] at hi
    obtain ⟨o', h1, h2⟩ := Option.map_eq_some_iff.1 hi
    exact ⟨o', h1, h2.symm⟩
  have hM : Mut M0 (fun i => μ (swapN p q i)) h' = Mut M0 μ h := by
    funext k
    refine propext ⟨?_, ?_⟩
    · rintro (h1 | ⟨i, o, h1, h2⟩)
      · exact .inl h1
      · obtain ⟨o', h3, _⟩ := inv h1
        exact .inr ⟨_, o', h3, h2⟩
    · rintro (h1 | ⟨i, o, h1, h2⟩)
      · exact .inl h1
      · exact .inr ⟨swapN p q i, o.ren p q, by rw [hh, swapN_swap, h1]; rfl, by dsimp only; rw [swapN_swap]; exact h2⟩
  have hs : ∀ i, shapes h' (swapN p q i) = shapes h i := by
    intro i
    unfold shapes
    rw [hh, swapN_swap]
    cases h i with
    | none => rfl
    | some o => cases o <;> rfl
  have hcap : ∀ c v, RCap (Mut M0 μ h) w μ (shapes h) c v → RCap (Mut M0 μ h) w (fun i => μ (swapN p q i)) (shapes h') (c.ren p q) v := by
    intro c v hr
    cases c with
    | d x => exact hr
    | loc i off =>
      obtain ⟨h1, g, h2, h3⟩ := hr
      exact ⟨by rw [hs]; exact h1, g, by dsimp only; rw [swapN_swap]; exact h2, h3⟩
  have hRC : ∀ c v, RC (Mut M0 μ h) w μ (shapes h) c v → RC (Mut M0 μ h) w (fun i => μ (swapN p q i)) (shapes h') (c.ren p q) v := by
    intro c v hr
    cases c with
    | d x => exact hr
    | own j =>
      obtain ⟨⟨sz, len, h1⟩, h2⟩ := hr
      exact ⟨⟨sz, len, by rw [hs]; exact h1⟩, by dsimp only; rw [swapN_swap]; exact h2⟩
    | loc j off =>
      obtain ⟨h1, g, h2, h3⟩ := hr
      exact ⟨by rw [hs]; exact h1, g, by dsimp only; rw [swapN_swap]; exact h2, h3⟩
    | el j k off =>
      obtain ⟨sz, len, g, cap, h1, h2, h3, h4, h5⟩ := hr
      exact ⟨sz, len, g, cap, by rw [hs]; exact h1, h2, h3, by dsimp only; rw [swapN_swap]; exact h4, h5⟩
    | fn f first cap =>
      obtain ⟨fs, cs, h1, h2, h3⟩ := hr
      refine ⟨fs, cs, ?_, ?_, ?_⟩
      · rw [renFirst_map, All2.map_left]
        exact h1.mono fun x us ⟨h4, h5⟩ => ⟨by rw [All2.map_left]; exact h4.mono hcap, h5⟩
      · rw [renCapL_map, All2.map_left]
        exact h2.mono hcap
      · rw [h3, renFirst_map, List.zip_map_left, List.map_map]
        rfl
    | lmap j =>
      obtain ⟨h1, h2⟩ := hr
      exact ⟨by rw [hs]; exact h1, by dsimp only; rw [swapN_swap]; exact h2⟩
    | dead => exact hr
  have hRV : ∀ x u, RV (Mut M0 μ h) w μ (shapes h) x u → RV (Mut M0 μ h) w (fun i => μ (swapN p q i)) (shapes h') (x.ren p q) u := by
    intro x u hr
    cases x with
    | v b cs =>
      obtain ⟨us, h1, h2, h3⟩ := hr
      exact ⟨us, by rw [renL_map, All2.map_left]; exact h1.mono hRC, h2, h3⟩
    | tup vs =>
      obtain ⟨us, h1, h2⟩ := hr
      exact ⟨us, h1, by rw [renP_map, All2.map_left]; exact h2.mono fun y u ⟨xs, h3, h4, h5⟩ => ⟨xs, by rw [All2.map_left]; exact h3.mono hRC, h4, h5⟩⟩
  refine ⟨S.tmps, S.defers, ?_, ?_, ?_, ?_, S.old, S.os, S.tape, S.output, S.size, S.frame⟩
  · intro t v hv
    rw [he] at hv
    obtain ⟨v', h1, rfl⟩ := Option.map_eq_some_iff.1 hv
    obtain ⟨u, h2, h3⟩ := S.env t v' h1
    rw [hM]
    exact ⟨u, h2, hRV v' u h3⟩
  · intro i o hi
    obtain ⟨o', h1, rfl⟩ := inv hi
    have h2 := S.heap _ o' h1
    rw [hM]
    cases o' with
    | blk cs =>
      obtain ⟨g, t, us, h3, h4, h5⟩ := h2
      exact ⟨g, t, us, h3, h4, by rw [renL_map, All2.map_left]; exact h5.mono hRC⟩
    | arr ty sz es => exact h2
    | map sz es => exact h2
    | saved tm se =>
      refine ⟨h2.1, h2.2.1, fun t x hx => ?_⟩
      rw [Env.get_ren] at hx
      obtain ⟨x', h3, rfl⟩ := Option.map_eq_some_iff.1 hx
      obtain ⟨u, h4, h5⟩ := h2.2.2 t x' h3
      exact ⟨u, h4, hRV x' u h5⟩
    | lp l ρ st r => exact h2
  · intro i j o r k hi hj h1 h2
    obtain ⟨o', h3, _⟩ := inv hi
    obtain ⟨r', h4, _⟩ := inv hj
    have := S.inj _ _ o' r' k h3 h4 h1 h2
    rw [← swapN_swap p q i, this, swapN_swap]
  · intro i o k hi h1
    obtain ⟨o', h3, _⟩ := inv hi
    exact S.own _ o' k h3 h1
theorem tidyR_sound {e : Env} {h : Heap} {live : List Nat} {K : Env → Heap → Prop} {p q : Nat} (S : Sim w0 B0 M0 N μ e.get h.get a w) (hx : tidyR p q live n e h K) :
    ∃ μ' e2 h2, Sim w0 B0 M0 N μ' (Env.get e2) (Heap.get h2) a w ∧ Fresh (Heap.get h2) n ∧ K e2 h2 := by
  unfold tidyR at hx
  split at hx
  · rename_i op hp
    split at hx
    · rename_i oq hq
      have h1 : (h.set p oq).get = fset h.get p oq := Heap.get_setF hp
      have h2 : ∃ x, (h.set p oq).get q = some x := by
        rw [h1]
        unfold fset
        split
        · exact ⟨_, rfl⟩
        · exact ⟨_, hq⟩
      obtain ⟨x, h2⟩ := h2
      have S' : Sim w0 B0 M0 N (fun i => μ (swapN p q i)) (e.ren p q).get (((h.set p oq).set q op).ren p q).get a w := by
        refine S.ren (p := p) (q := q) (fun t => Env.get_ren p q t e) fun i => ?_
        rw [Heap.get_ren, Heap.get_setF h2, h1]
        congr 1
        unfold fset swapN
        simp only [nbeq]
        by_cases h3 : i = p <;> by_cases h4 : i = q <;> simp_all
      exact ⟨_, _, _, tidy_sound S' hx⟩
    · exact hx.elim
  · exact hx.elim
end
end Go.Vi
namespace Go.Vi
open Go.RowKit
set_option linter.unusedVariables false

theorem argEnvV_get : ∀ (vs : List V) (k t : Nat), (argEnvV k vs).get t = if k ≤ t then vs[t - k]? else none
  | [], k, t => by simp [argEnvV, Env.get]
  | x :: r, k, t => by
    have ih := argEnvV_get r (k + 1) t
    simp only [argEnvV, Env.get, nbeq, ih]
    by_cases h : k = t
    · subst h; simp
    · simp only [h, decide_false]
      by_cases h2 : k + 1 ≤ t
      · rw [if_pos h2, if_pos (by omega), show t - k = (t - (k + 1)) + 1 by omega]
        simp
      · rw [if_neg h2, if_neg (by omega)]

section
variable {P : Program} {w0 : World} {B0 M0 : Nat → Prop} {N N' : Nat} {μ : Nat → Value} {a : Act} {w : World} {n : Nat}

theorem RV.map {M M' : Nat → Prop} {w' : World} {μ' : Nat → Value} {s s' : Nat → Option Sh} (hc : ∀ c u, RC M w μ s c u → RC M' w' μ' s' c u) {x : V} {v : Value} (hr : RV M w μ s x v) : RV M' w' μ' s' x v :=
  hr.imp (p := fun _ => false) (V.any_false x) fun c u _ h => hc c u h

/-- Other slots, another call's. -/
theorem Sim.reframe {e e' : EnvF} {h : HeapF} {a' : Act} (S : Sim w0 B0 M0 N μ e h a w) (ht : a'.tmps.size = N') (hd : DefOk w0.heap.size a'.defers w) (he : ∀ t v, e' t = some v → ∃ u, a'.tmps[t]? = some u ∧ RV (Mut M0 μ h) w μ (shapes h) v u) : Sim w0 B0 M0 N' μ e' h a' w :=
  ⟨ht, hd, he, S.heap, S.inj, S.own, S.old, S.os, S.tape, S.output, S.size, S.frame⟩

/-- The slots are put by. -/
theorem Sim.save {e : Env} {h : Heap} (S : Sim w0 B0 M0 N μ e.get h.get a w) (hf : Fresh h.get n) :
    Sim w0 B0 M0 N (fun i => if i = n then .tuple #[] else μ i) e.get (h ++ [(n, Obj.saved a e)]).get a w ∧ Fresh (h ++ [(n, Obj.saved a e)]).get (n + 1) ∧
      ∀ v u, RV (Mut M0 μ h.get) w μ (shapes h.get) v u → RV (Mut M0 (fun i => if i = n then .tuple #[] else μ i) (h ++ [(n, Obj.saved a e)]).get) w (fun i => if i = n then .tuple #[] else μ i) (shapes (h ++ [(n, Obj.saved a e)]).get) v u := by
  obtain ⟨hnew, hfr⟩ := Heap.get_new [Obj.saved a e] h n hf
  have hx : (h ++ [(n, Obj.saved a e)]).get = fnew h.get n [.saved a e] := hnew
  have hμ : ∀ id o, h.get id = some o → (fun i => if i = n then Value.tuple #[] else μ i) id = μ id := by
    intro id o hid
    have : id ≠ n := fun he => by subst he; rw [hf id (Nat.le_refl _)] at hid; cases hid
    simp [this]
  have hfn : ∀ id, n ≤ id → id < n + [Obj.saved a e].length → h.get id = none := fun id h1 _ => hf id h1
  have hM : ∀ k, k < w.heap.size → Mut M0 (fun i => if i = n then .tuple #[] else μ i) (fnew h.get n [.saved a e]) k → Mut M0 μ h.get k := by
    rintro k hk (h1 | ⟨id, o, h1, h2⟩)
    · exact .inl h1
    · rcases fnew_inv h1 with h3 | ⟨j, rfl, h3⟩
      · exact .inr ⟨id, o, h3, by rw [← hμ id o h3]; exact h2⟩
      · have : j = 0 := by
          have := (List.getElem?_eq_some_iff.1 h3).1
          simp at this
          omega
        subst this
        simp [blkOf] at h2
  have hA : Agree μ (fun i => if i = n then Value.tuple #[] else μ i) (shapes h.get) (shapes (fnew h.get n [.saved a e])) := by
    intro id x hx
    unfold shapes at hx ⊢
    cases hi : h.get id with
    | none => simp [hi] at hx
    | some o =>
      rw [hi] at hx
      exact ⟨by rw [fnew_old hfn hi]; exact hx, hμ id o hi⟩
  have keep : ∀ (v : V) (u : Value), RV (Mut M0 μ h.get) w μ (shapes h.get) v u → RV (Mut M0 (fun i => if i = n then .tuple #[] else μ i) (fnew h.get n [.saved a e])) w (fun i => if i = n then .tuple #[] else μ i) (shapes (fnew h.get n [.saved a e])) v u :=
    fun v u hr => hr.keep (Leaves.refl _ _) hM hA
  have h1 : ∀ j (o : Obj), [Obj.saved a e][j]? = some o → j = 0 ∧ o = .saved a e := by
    intro j o hj
    match j, hj with
    | 0, hj => exact ⟨rfl, by simpa using hj.symm⟩
  rw [hx]
  refine ⟨S.new (n := n) (objs := [.saved a e]) (μ' := fun i => if i = n then .tuple #[] else μ i) (w' := w) hfn hμ (Below.refl _ _)
    (fun j o k hj hk => by obtain ⟨rfl, rfl⟩ := h1 j o hj; simp [blkOf] at hk)
    (fun i j o p k hi hj _ _ => by obtain ⟨rfl, _⟩ := h1 i o hi; obtain ⟨rfl, _⟩ := h1 j p hj; rfl)
    (fun j o hj => by
      obtain ⟨rfl, rfl⟩ := h1 j o hj
      refine ⟨by simp, ⟨_, S.defers⟩, fun t x hx => ?_⟩
      obtain ⟨u, h2, h3⟩ := S.env t x hx
      exact ⟨u, h2, keep _ _ h3⟩), by rw [← hx]; exact hfr, keep⟩

/-- The callee begins. -/
theorem Sim.enter {e : Env} {h : Heap} (S : Sim w0 B0 M0 N μ e.get h.get a w) (hf : Fresh h.get n) {vs : List V} {xs : List Value} (hall : All2 (fun v u => RV (Mut M0 μ h.get) w μ (shapes h.get) v u) vs xs) (hk : xs.length ≤ N') :
    Sim w0 B0 M0 N' (fun i => if i = n then .tuple #[] else μ i) (argEnvV 0 vs).get (h ++ [(n, Obj.saved a e)]).get { tmps := xs.toArray ++ Array.replicate (N' - xs.toArray.size) undef, defers := [] } w ∧ Fresh (h ++ [(n, Obj.saved a e)]).get (n + 1) := by
  obtain ⟨S1, hf1, keep⟩ := S.save hf
  refine ⟨S1.reframe (by simp; omega) trivial fun t x hx => ?_, hf1⟩
  rw [argEnvV_get] at hx
  simp only [Nat.zero_le, if_true, Nat.sub_zero] at hx
  obtain ⟨u, hu, hr⟩ := hall.get t x hx
  refine ⟨u, ?_, keep _ _ hr⟩
  have hlt := (List.getElem?_eq_some_iff.1 hu).1
  rw [Array.getElem?_append_left (by simpa using hlt)]
  simpa using hu

/-- What nobody refers to may go. -/
theorem Sim.dropKept {e : EnvF} {h : HeapF} (S : Sim w0 B0 M0 N μ e h a w) (hsn : shapes h n = some .kept) :
    Sim w0 B0 M0 N μ e (fgone h n) a w ∧ ∀ v u, RV (Mut M0 μ h) w μ (shapes h) v u → RV (Mut M0 μ (fgone h n)) w μ (shapes (fgone h n)) v u := by
  have hinv : ∀ j o, fgone h n j = some o → j ≠ n ∧ h j = some o := by
    intro j o hj
    unfold fgone at hj
    split at hj
    · cases hj
    · rename_i hne; exact ⟨hne, hj⟩
  have hM : ∀ k, k < w.heap.size → Mut M0 μ (fgone h n) k → Mut M0 μ h k := by
    rintro k _ (h1 | ⟨j, o, h1, h2⟩)
    · exact .inl h1
    · exact .inr ⟨j, o, (hinv j o h1).2, h2⟩
  have hs : ∀ j, j ≠ n → shapes (fgone h n) j = shapes h j := by
    intro j hj
    simp [shapes, fgone, hj]
  have ne : ∀ {j x}, shapes h j = some x → x ≠ .kept → j ≠ n := by
    rintro j x hx hk rfl
    rw [hsn] at hx
    cases hx
    exact hk rfl
  have hRC : ∀ c u, RC (Mut M0 μ h) w μ (shapes h) c u → RC (Mut M0 μ (fgone h n)) w μ (shapes (fgone h n)) c u := by
    intro c u hr
    refine hr.step (chg := fun j => j = n) (Leaves.refl _ _) hM (fun j x hx hne => ⟨by rw [hs j hne]; exact hx, rfl⟩) (fun j hj => ne hj (by simp)) (fun j hj => ne hj (by simp)) fun j hj => ?_
    cases c <;> simp only [C.isOwn, Bool.false_eq_true] at hj
    case own i =>
      have := Nat.eq_of_beq_eq_true hj
      subst this
      obtain ⟨⟨sz, len, h1⟩, _⟩ := hr
      exact ne h1 (by simp)
    case el i k off =>
      have := Nat.eq_of_beq_eq_true hj
      subst this
      obtain ⟨sz, len, g, cap, h1, _⟩ := hr
      exact ne h1 (by simp)
  have hRV : ∀ v u, RV (Mut M0 μ h) w μ (shapes h) v u → RV (Mut M0 μ (fgone h n)) w μ (shapes (fgone h n)) v u := fun v u hr => hr.map hRC
  have hRD : ∀ d v, RD (Mut M0 μ h) w d v → RD (Mut M0 μ (fgone h n)) w d v := fun d v hr => hr.step (Leaves.refl _ _) hM
  refine ⟨⟨S.tmps, S.defers, fun t x hx => ?_, ?_, ?_, ?_, S.old, S.os, S.tape, S.output, S.size, S.frame⟩, hRV⟩
  · obtain ⟨u, h3, h4⟩ := S.env t x hx
    exact ⟨u, h3, hRV _ _ h4⟩
  · intro j o hj
    obtain ⟨hne, h3⟩ := hinv j o hj
    have h4 := S.heap j o h3
    cases o with
    | blk cs =>
      obtain ⟨g, t, us, h5, h6, h7⟩ := h4
      exact ⟨g, t, us, h5, h6, h7.mono hRC⟩
    | arr ty sz es =>
      obtain ⟨h5, xs, h6, h7⟩ := h4
      exact ⟨h5, xs, h6, h7.mono hRD⟩
    | map sz es =>
      obtain ⟨r, ents, clock, h5, h6, h7⟩ := h4
      exact ⟨r, ents, clock, h5, h6, h7.step hRD⟩
    | saved tm se => exact ⟨h4.1, h4.2.1, fun t x hx => let ⟨u, h5, h6⟩ := h4.2.2 t x hx; ⟨u, h5, hRV _ _ h6⟩⟩
    | lp l ρ st q => exact h4
  · intro i j o p k hi hj hbi hbj
    exact S.inj i j o p k (hinv i o hi).2 (hinv j p hj).2 hbi hbj
  · intro id o k hi hb
    exact S.own id o k (hinv id o hi).2 hb

/-- The slots are taken back. -/
theorem Sim.retake {e1 : Env} {eF : EnvF} {h2 : HeapF} {a2 : Act} {w' : World} {B : Nat} (ht : a.tmps.size = N) (hd : DefOk w0.heap.size a.defers w') (S : Sim w0 B0 M0 N' μ eF h2 a2 w) (hn : h2 n = some (.saved a e1)) : Sim w0 B0 M0 N μ e1.get h2 a w := by
  obtain ⟨_, ⟨B, hB⟩, hsv⟩ := S.heap n _ hn
  exact S.reframe ht (hd.both hB) hsv
theorem Sim.leave {e1 : Env} {eF : EnvF} {h2 : Heap} {a2 : Act} {w' : World} (ht : a.tmps.size = N) (hd : DefOk w0.heap.size a.defers w') (S : Sim w0 B0 M0 N' μ eF h2.get a2 w) (hn : h2.get n = some (.saved a e1)) :
    Sim w0 B0 M0 N μ e1.get (h2.del n).get a w ∧ ∀ v u, RV (Mut M0 μ h2.get) w μ (shapes h2.get) v u → RV (Mut M0 μ (h2.del n).get) w μ (shapes (h2.del n).get) v u := by
  rw [Heap.get_del]
  exact (S.retake (B := 0) ht hd hn).dropKept (by simp [shapes, hn, Obj.sh])

/-- The record of a range over a function turns. -/
theorem Sim.setLp {e : EnvF} {h : HeapF} (S : Sim w0 B0 M0 N μ e h a w) {id l : Nat} {ρ : Loop} {st st' : LoopState} {p p' : Option Go.Code} (hid : h id = some (.lp l ρ st p)) :
    w.heap[l]? = some (.loop { ρ with state := st, pending := p }) ∧ Sim w0 B0 M0 N μ e (fset h id (.lp l ρ st' p')) a (w.putObj l (.loop { ρ with state := st', pending := p' })) := by
  obtain ⟨h1, h2⟩ := S.heap id _ hid
  refine ⟨h2, S.turn0 hid rfl rfl rfl rfl (by simp) (fun k hk hne => ?_) fun _ _ => ⟨h1, ?_⟩⟩
  · refine World.putObj_heap_other fun he => hne ?_
    subst he
    rw [h1]; rfl
  · exact World.putObj_heap_same (Array.getElem?_eq_some_iff.1 h2).1

/-- A mark is come to. -/
theorem Sim.unmark {e : EnvF} {h : HeapF} {d : Deferred} {ds : List Deferred} (hds : a.defers = d :: ds) (hns : ∀ j tm se, h j ≠ some (.saved tm se)) (S : Sim w0 B0 M0 N μ e h a w) : ∃ D, d = { target := .collected D, args := #[] } ∧ w.heap[D]? = some (.deferred (some [])) ∧
    Sim w0 B0 M0 N μ e h { a with defers := ds } (w.putObj D (.deferred none)) := by
  have hd := S.defers
  rw [hds] at hd
  obtain ⟨⟨D, h1, h2, h3, h4⟩, h5⟩ := hd
  refine ⟨D, h1, h3, ?_⟩
  have hlt := (Array.getElem?_eq_some_iff.1 h3).1
  have hoth : ∀ k, k ≠ D → (w.putObj D (.deferred none)).heap[k]? = w.heap[k]? := fun k hk => World.putObj_heap_other hk
  have hL : Leaves (Mut M0 μ h) w (w.putObj D (.deferred none)) := ⟨by simp, fun k hk _ hnd => hoth k fun he => by subst he; rw [h3] at hnd; cases hnd⟩
  have hne : ∀ id o k, h id = some o → blkOf (μ id) = some k → k ≠ D := fun id o k hi hb he => by
    subst he
    have := (S.heap id o hi).notDef hb
    rw [h3] at this
    cases this
  have hRD : ∀ d v, RD (Mut M0 μ h) w d v → RD (Mut M0 μ h) (w.putObj D (.deferred none)) d v := fun d v hr => hr.step hL fun _ _ h => h
  have hRV : ∀ v u, RV (Mut M0 μ h) w μ (shapes h) v u → RV (Mut M0 μ h) (w.putObj D (.deferred none)) μ (shapes h) v u := fun v u hr => hr.keep hL (fun _ _ h => h) (Agree.refl _ _)
  have hRC : ∀ c u, RC (Mut M0 μ h) w μ (shapes h) c u → RC (Mut M0 μ h) (w.putObj D (.deferred none)) μ (shapes h) c u := fun v u hr => hr.keep hL (fun _ _ h => h) (Agree.refl _ _)
  have hdef : ∀ (ds : List Deferred), (∀ d' ∈ ds, d' ≠ { target := .collected D, args := #[] }) → DefOk w0.heap.size ds w → DefOk w0.heap.size ds (w.putObj D (.deferred none)) := by
    intro ds
    induction ds with
    | nil => intro _ _; trivial
    | cons x r ih =>
      rintro hx ⟨⟨D', g1, g2, g3, g4⟩, g5⟩
      refine ⟨⟨D', g1, g2, ?_, g4⟩, ih (fun d' hd' => hx d' (List.mem_cons_of_mem _ hd')) g5⟩
      rw [hoth D' fun he => hx x List.mem_cons_self (by rw [g1, he])]
      exact g3
  refine ⟨S.tmps, hdef ds h4 h5, fun t x hx => ?_, fun j o hj => ?_, S.inj, fun id o k hi hb => ?_, S.old, S.os, S.tape, S.output, ?_, fun k hk hB => ?_⟩
  · obtain ⟨u, h6, h7⟩ := S.env t x hx
    exact ⟨u, h6, hRV _ _ h7⟩
  · have h6 := S.heap j o hj
    cases o with
    | blk cs =>
      obtain ⟨g, t, us, h7, h8, h9⟩ := h6
      exact ⟨g, t, us, h7, (hoth g (hne j _ g hj (by rw [h7]; rfl))).trans h8, h9.mono hRC⟩
    | arr ty sz es =>
      obtain ⟨h7, xs, h8, h9⟩ := h6
      refine ⟨h7, xs, h8.kept (row := some D) ⟨rfl, rfl, rfl, by simp, fun k hk hn => hoth k fun he => hn (by rw [he])⟩ ?_, h9.mono hRD⟩
      rw [blkOf_own h8]
      cases hb : blkOf (μ j) with
      | none => exact .inl rfl
      | some k => exact .inr fun he => hne j _ k hj hb (by cases he; rfl)
    | map sz es =>
      obtain ⟨r, ents, clock, h7, h8, h9⟩ := h6
      exact ⟨r, ents, clock, h7, (hoth r (hne j _ r hj (by rw [h7]; rfl))).trans h8, h9.step hRD⟩
    | saved tm se => exact absurd hj (hns j tm se)
    | lp l ρ st q => exact ⟨h6.1, (hoth l (hne j _ l hj (by rw [h6.1]; rfl))).trans h6.2⟩
  · obtain ⟨h6, h7, h8⟩ := S.own id o k hi hb
    exact ⟨h6, by simpa using h7, h8⟩
  · simpa using S.size
  · rw [hoth k (by omega)]
    exact S.frame k hk hB

theorem ofCapL_all {M : Nat → Prop} {s : Nat → Option Sh} : ∀ {cs : List Cap} {us : List Value}, All2 (RCap M w μ s) cs us → All2 (RC M w μ s) (ofCapL cs) us
  | [], [], _ => trivial
  | c :: cs, u :: us, h => by
    refine ⟨?_, ofCapL_all h.2⟩
    cases c with
    | d x => exact h.1
    | loc i o => exact h.1
theorem ofFirst_all {M : Nat → Prop} {s : Nat → Option Sh} : ∀ {first : List (Bool × List Cap)} {fs : List (List Value)}, All2 (fun p us => All2 (RCap M w μ s) p.2 us ∧ okLen p.1 us.length) first fs →
    All2 (fun v u => RV M w μ s v u) (ofFirst first) ((first.zip fs).map fun p => mkV p.1.1 p.2)
  | [], [], _ => trivial
  | (b, cs) :: r, us :: fs, h => ⟨⟨us, ofCapL_all h.1.1, h.1.2, rfl⟩, ofFirst_all h.2⟩
theorem ofCaps_all {M : Nat → Prop} {s : Nat → Option Sh} : ∀ {cs : List Cap} {us : List Value}, All2 (RCap M w μ s) cs us → All2 (fun v u => RV M w μ s v u) (ofCaps cs) us
  | [], [], _ => trivial
  | c :: cs, u :: us, h => by
    refine ⟨⟨[u], ⟨?_, trivial⟩, rfl, rfl⟩, ofCaps_all h.2⟩
    cases c with
    | d x => exact h.1
    | loc i o => exact h.1
theorem vals_all {e : EnvF} {h : HeapF} (S : Sim w0 B0 M0 N μ e h a w) : ∀ {xs : List Operand} {ys : List Arg} {vs : List V}, argsOk xs ys = true → vals e ys = some vs → All2 (fun v u => RV (Mut M0 μ h) w μ (shapes h) v u) vs (xs.map a.eval)
  | [], [], vs, _, hv => by simp [vals] at hv; subst hv; trivial
  | [], _ :: _, _, ho, _ => by simp [argsOk] at ho
  | _ :: _, [], _, ho, _ => by simp [argsOk] at ho
  | x :: xs, y :: ys, vs, ho, hv => by
    simp only [argsOk, Bool.and_eq_true] at ho
    simp only [vals] at hv
    split at hv
    · rename_i v hv1
      split at hv
      · rename_i vs' hvs
        cases hv
        exact ⟨S.arg ho.1 hv1, vals_all S ho.2 hvs⟩
      · cases hv
    · cases hv

/-- What the call runs on. -/
def inlOp (x : Option Arg) (f : Nat) (args : List Arg) : Op := match x with
  | none => .callH f args
  | some y => .callVH y args
theorem argVs_sound {e : EnvF} {h : HeapF} (S : Sim w0 B0 M0 N μ e h a w) {o : Go.Oper} {x : Option Arg} {f : Nat} {args : List Arg} {vs : List V} (ho : chkOp P o (inlOp x f args) = true) (hv : argVs e x f args = some vs) (hfit : Fit P f) :
    ∃ xs : List Value, (execOp a.eval o).run P w = .ok (.enter f xs.toArray) w ∧ All2 (fun v u => RV (Mut M0 μ h) w μ (shapes h) v u) vs xs := by
  unfold argVs at hv
  split at hv
  · rename_i vs0 hvs
    cases x with
    | none =>
      cases hv
      simp only [inlOp, chkOp] at ho
      split at ho
      · rename_i g as ts hop
        simp only [Bool.and_eq_true, beq_iff_eq] at ho
        obtain ⟨rfl, hargs⟩ := ho
        exact ⟨_, run_call hop hfit, vals_all S hargs hvs⟩
      · cases ho
    | some y =>
      dsimp only at hv
      split at hv
      · rename_i g first cap hy
        rw [nbeq] at hv
        by_cases hgf : g = f
        · subst hgf
          simp only [decide_true, Option.some.injEq] at hv
          subst hv
          simp only [inlOp, chkOp] at ho
          split at ho
          · rename_i y' as ts hop
            simp only [Bool.and_eq_true] at ho
            obtain ⟨hyy, hargs⟩ := ho
            obtain ⟨fs, cs, h1, h2, h3⟩ := S.cell hyy hy
            refine ⟨((first.zip fs).map fun p => mkV p.1.1 p.2) ++ as.toList.map a.eval ++ cs, ?_, ((ofFirst_all h1).append (vals_all S hargs hvs)).append (ofCaps_all h2)⟩
            simp [execOp, hop, resolve, h3, Deferred.ofValue, invoke, hfit _ w]
          · cases ho
        · simp only [hgf, decide_false] at hv
          cases hv
      · cases hv
  · cases hv
end
end Go.Vi
namespace Go.Vi
open Go.RowKit
set_option linter.unusedVariables false

/-- The wide fence, outside a round or in one. -/
def Opn (F : Fence) : Prop := F = Fence.wide ∨ ∃ l, F = Fence.wide.inRound l
def notDefer : Go.Op → Bool
  | .defer _ => false
  | _ => true

section
variable {P : Program} {F : Fence} {d : Nat} {Q : Exit → Act → World → Prop} {mops : Array Go.Oper}

theorem Opn.fn (hF : Opn F) (f : FuncId) : F.fn f := by rcases hF with rfl | ⟨l, rfl⟩ <;> trivial
theorem Opn.depth (hF : Opn F) : F.depth.isSome = true → ∀ {p : Prop}, p := by rcases hF with rfl | ⟨l, rfl⟩ <;> intro h <;> simp [Fence.wide, Fence.inRound] at h
theorem Opn.calls (hF : Opn F) {n : Nat} {f : FuncId} {args : Array Value} {w : World} {R : Ending → World → Prop} (h : Calls P f args w R) : CallsIn F n P f args w R := by
  rcases hF with rfl | ⟨l, rfl⟩
  · exact callsIn_wide.2 h
  · exact (callsIn_wide.2 h : CallsIn Fence.wide n P f args w R)
theorem Opn.rows (hF : Opn F) {n : Nat} {row : String} {args : Array Value} {w : World} {R : Value → World → Prop} (h : Rows P row args w R) : RowsIn F n P row args w R := by
  intro c cs _
  obtain ⟨v, w', h1, h2⟩ := h c cs
  refine ⟨v, w', h1, ?_⟩
  rcases hF with rfl | ⟨l, rfl⟩
  · exact stepsIn_wide.2 h2
  · exact (stepsIn_wide.2 h2 : StepsIn (Machine.fenced P Fence.wide) P _ _)

theorem Oper.wp_in (hF : Opn F) {o : Go.Oper} {a : Act} {w : World} {next : Act → World → Prop} (hd : notDefer o.op = true) (h : o.wp P a w next (fun _ _ _ => False)) : o.wpIn F d P a w next Q := by
  have hnd : ∀ c, o.op ≠ .defer c := fun c hc => by rw [hc] at hd; cases hd
  refine ⟨fun f _ => hF.fn f, ?_⟩
  rw [Oper.semAt_eq _ _ _ hnd]
  unfold Oper.wp at h
  generalize (execOp a.eval o).run P w = r at h
  cases r with
  | ok x w' =>
    cases x <;> simp only [Oper.upon] at h
    case value v => exact h
    case skip => exact h
    case defer df => exact h
    case enter f args =>
      refine ⟨fun hh => hF.depth hh, hF.calls (h.mono fun e w'' he => ?_)⟩
      cases e with
      | returned v => exact he
      | panicked c => exact he.elim
      | outgrown => obtain ⟨_, _, hf⟩ := he; exact hf.elim
    case row row args => exact ⟨fun hh => hF.depth hh, hF.rows h⟩
  | halt x w' => cases x <;> simp only [Oper.upon] at h

theorem wpOp_in (hF : Opn F) {i : Nat} {K : Act → World → Prop} {a : Act} {w : World} (hd : ∀ o, mops[i]? = some o → notDefer o.op = true) (h : wpOp P mops (fun _ _ _ => False) i K a w) : wpOpIn F d P mops Q i K a w := by
  unfold wpOp at h
  unfold wpOpIn
  split at h
  · rename_i hi
    simp only [hi]
    exact h
  · rename_i o hi
    simp only [hi]
    split at h
    · rename_i hw
      rw [if_pos hw]
      rcases h with h | ⟨_, _, _, hf⟩
      · exact Oper.wp_in hF (hd o hi) h
      · exact hf.elim
    · rename_i hw
      rw [if_neg hw]
      exact ⟨fun f _ => hF.fn f, h⟩

theorem wpIn_ghost {c : Go.Code} {a : Act} {w : World} (I : Nat → Act → World → Prop) (n₀ : Nat) (h₀ : I n₀ a w)
    (round : ∀ n a w, I n a w → c.wpIn F d P (Exit.then (fun a' w' => ∃ n', n' < n ∧ I n' a' w') Q) a w) : (Go.Code.loop c).wpIn F d P Q a w := by
  refine wpIn_loop (fun a w => ∃ n, I n a w) (fun a w => leastOf (fun n => I n a w)) ⟨n₀, h₀⟩ fun a w hI => wpIn_mono (round _ a w (leastOf_spec hI).1) ?_
  intro e a' w' hq
  cases e <;> first | exact hq | skip
  obtain ⟨n', hlt, hI'⟩ := hq
  exact ⟨⟨n', hI'⟩, Nat.lt_of_le_of_lt ((leastOf_spec ⟨n', hI'⟩).2 n' hI') hlt⟩
end

section
variable {P : Program} {w0 : World} {B0 M0 : Nat → Prop} {N : Nat} {G : Nat → List DV → R → Prop} {Q : Exit → Act → World → Prop} {mops : Array Go.Oper} {vops : List Oper} {n0 : Nat} {K : EnvF → HeapF → Prop} {F : Fence} {d : Nat}

/-- **A region in text order,** and what is to come behind. -/
theorem seq_sound_in (hF : Opn F) (hG : Known P G w0 B0) (hnd : ∀ (i : Nat) (o : Go.Oper), mops[i]? = some o → notDefer o.op = true) {K : Cont} (ds : List Deferred) (rest : List Nat) (hQ : ∀ a w, AtL w0 B0 M0 N K a w → a.defers = ds → wpOpsIn F d P mops Q rest a w) : ∀ (l : List Oper) (k : Nat) (e : Env) (h : Heap) (n : Nat) (μ : Nat → Value) (a : Act) (w : World),
    (∀ j o, l[j]? = some o → ∃ mo, mops[k + j]? = some mo ∧ chkOper P N mops mo o = true) → Sim w0 B0 M0 N μ e.get h.get a w → a.defers = ds → Fresh h.get n → exOps prims G l e h n K → wpOpsIn F d P mops Q (List.range' k l.length ++ rest) a w
  | [], k, e, h, n, μ, a, w, _, S, hds, hf, hx => by
    simp only [List.length_nil, List.range'_zero, List.nil_append]
    exact hQ a w ⟨μ, e, h, n, S, hf, hx⟩ hds
  | o :: r, k, e, h, n, μ, a, w, hl, S, hds, hf, hx => by
    obtain ⟨mo, h1, h2⟩ := hl 0 o rfl
    rw [List.length_cons, List.range'_succ, List.cons_append, wpOpsIn_cons]
    refine wpOp_in hF (hnd k) (stepF_sound S (by simpa using h1) h2 hG (fun id h3 _ => hf id h3) (exOps_step hf hx) ?_)
    rintro a' w' ⟨μ', e', h', S', el, hl', rfl, rfl, hf', hx'⟩ hds'
    refine seq_sound_in hF hG hnd ds rest hQ r (k + 1) el hl' _ μ' a' w' (fun j o hj => ?_) S' (hds'.trans hds) hf' hx'
    obtain ⟨mo, h3, h4⟩ := hl (j + 1) o (by simpa using hj)
    exact ⟨mo, by rw [← h3]; congr 1; omega, h4⟩

theorem anyF_sound_in (hF : Opn F) (hG : Known P G w0 B0) (hT : Told P N mops vops) (hnd : ∀ (i : Nat) (o : Go.Oper), mops[i]? = some o → notDefer o.op = true) (ds : List Deferred) : ∀ (fuel : Nat) (listed : Array Bool) (e : EnvF) (h : HeapF) (μ : Nat → Value) (a : Act) (w : World), Sim w0 B0 M0 N μ e h a w → a.defers = ds → Rooms vops n0 listed h →
    anyF G mops vops n0 K fuel listed e h → (∀ a w, At w0 B0 M0 N K a w → a.defers = ds → Q .normal a w) → wpAnyIn F d P .any mops Q fuel listed a w
  | 0, listed, e, h, μ, a, w, S, hds, hr, hx, hQ => ⟨hx.1, hQ a w ⟨μ, e, h, S, hx.2⟩ hds⟩
  | fuel + 1, listed, e, h, μ, a, w, S, hds, hr, hx, hQ => by
    refine ⟨fun h0 => hQ a w ⟨μ, e, h, S, hx.1 h0⟩ hds, fun i hi => ?_⟩
    obtain ⟨hlt, hun⟩ := ready_lt hi
    obtain ⟨_, mo, hmo, _⟩ := mem_ready.1 hi
    have hl : i < vops.length := by rw [← hT.1]; exact (Array.getElem?_eq_some_iff.1 hmo).1
    have ho : vops[i]? = some vops[i] := List.getElem?_eq_getElem hl
    obtain ⟨mo', hmo', hc⟩ := hT.2 i _ ho
    rw [hmo] at hmo'
    cases hmo'
    obtain ⟨e', h', h1, h2⟩ := (stepF_point prims G).1 (hx.2 i hi _ ho)
    refine wpOp_in hF (hnd i) (stepF_sound S hmo hc hG (fun id h3 h4 => hr i _ ho hun id h3 h4) h1 ?_)
    rintro a' w' ⟨μ', _, _, S', rfl, rfl⟩ hds'
    exact anyF_sound_in hF hG hT hnd ds fuel _ _ _ μ' a' w' S' (hds'.trans hds) (hr.step ho (stepF_dom prims G h1) hlt) h2 hQ

/-- **A region that draws.** -/
theorem any_sound_in (hF : Opn F) (hm : P.follows .mixedOrders = true) (hG : Known P G w0 B0) (hT : Told P N mops vops) (hnd : ∀ (i : Nat) (o : Go.Oper), mops[i]? = some o → notDefer o.op = true) (hB : lexV mops vops vops.length 0 (Array.replicate mops.size false) = true) {K : Cont} {rid : Nat} {n : Nat} {e : Env} {h : Heap} {μ : Nat → Value} {a : Act} {w : World}
    (S : Sim w0 B0 M0 N μ e.get h.get a w) (hf : Fresh h.get n) (hx : exOps prims G vops e h n K) (hQ : ∀ a' w, AtL w0 B0 M0 N K a' w → a'.defers = a.defers → Q .normal a' w) : (Go.Code.region rid mops true).wpIn F d P Q a w := by
  have h0 : nsOf vops n 0 = n := by cases vops <;> rfl
  refine wpIn_region_any hm ?_
  have S' := S.drew
  have hr : Rooms vops n (Array.replicate mops.size false) h.get := fun j o _ _ id h1 _ => hf id (Nat.le_trans (nsOf_le vops n j) h1)
  rw [hT.1]
  rw [hT.1] at hB hr
  refine anyF_sound_in hF hG hT hnd a.defers _ _ _ _ μ a _ S' rfl hr (anyF_lex hG hT.weak vops 0 _ _ _ (fun j => by simp) hB ⟨μ, a, _, S'⟩ hr (chain_of_exOps vops 0 e h (fun j => by simp) (by rw [h0]; exact hf) (by rw [h0]; exact hx))) ?_
  rintro a' w' ⟨μ', _, _, S'', el, hl, n', rfl, rfl, hf', hk⟩ hds
  exact hQ a' w' ⟨μ', el, hl, n', S'', hf', hk⟩ hds

/-! ### a region that draws, whose last operation is told apart -/
/-- Whoever waits, waits for those ahead of it in the text. -/
def lowB (mops : Array Go.Oper) : Bool := (List.range mops.size).all fun j => match mops[j]? with
  | some m => m.after.toList.all fun e => !Region.binds .any e || Nat.blt e.on j
  | none => true
/-- The last one waits for all. -/
def lastB (mops : Array Go.Oper) (l : Nat) : Bool := (List.range l).all fun j => has (waitSet (Array.replicate mops.size false) j mops.toList 0 []) l
theorem lowB_spec (hl : lowB mops = true) {j : Nat} {m : Go.Oper} (hm : mops[j]? = some m) {e : Edge} (he : e ∈ m.after) (hb : Region.binds .any e = true) : e.on < j := by
  simp only [lowB, List.all_eq_true, List.mem_range] at hl
  have h1 := hl j (Array.getElem?_eq_some_iff.1 hm).1
  rw [hm] at h1
  simp only [List.all_eq_true] at h1
  have h2 := h1 e (by simpa using he)
  rw [hb] at h2
  simpa [Nat.blt_eq] using h2
theorem some_ready (hl : lowB mops = true) {listed : Array Bool} (hsz : listed.size = mops.size) : ∀ (n j : Nat), j < n → j < mops.size → listed.getD j true = false → ∃ k, k ∈ Region.ready .any mops listed
  | 0, j, h, _, _ => by omega
  | n + 1, j, hj, hjs, hu => by
    by_cases hall : ∀ e ∈ (mops[j]).after, Region.binds .any e = true → listed.getD e.on false = true
    · exact ⟨j, mem_ready.2 ⟨hu, mops[j], Array.getElem?_eq_getElem hjs, hall⟩⟩
    · simp only [Classical.not_forall] at hall
      obtain ⟨e, he, hb, hn⟩ := hall
      have h1 := lowB_spec hl (Array.getElem?_eq_getElem hjs) he hb
      refine some_ready hl hsz n e.on (by omega) (by omega) ?_
      have hlt : e.on < listed.size := by omega
      simp only [Array.getD, hlt, dif_pos] at hn ⊢
      simpa using hn
theorem wpAnyIn_done {listed : Array Bool} (hr : Region.ready .any mops listed = []) {a : Act} {w : World} (hq : Q .normal a w) : ∀ fuel, wpAnyIn F d P .any mops Q fuel listed a w
  | 0 => ⟨hr, hq⟩
  | fuel + 1 => ⟨fun _ => hq, fun i hi => by rw [hr] at hi; cases hi⟩
theorem anyF_done {fuel : Nat} {listed : Array Bool} {e : EnvF} {h : HeapF} (hr : Region.ready .any mops listed = []) (hx : anyF G mops vops n0 K fuel listed e h) : K e h := by
  cases fuel with
  | zero => exact hx.2
  | succ fuel => exact hx.1 hr
theorem anyF_sound_last (hF : Opn F) (hG : Known P G w0 B0) {l : Nat} (hsz : mops.size = l + 1) (hfake : vops[l]? = some fakeOp) (hT : ∀ (j : Nat) (o : Oper), j < l → vops[j]? = some o → ∃ mo, mops[j]? = some mo ∧ chkOper P N mops mo o = true) (hvl : vops.length = l + 1)
    (hnd : ∀ (i : Nat) (o : Go.Oper), mops[i]? = some o → notDefer o.op = true) (hlow : lowB mops = true) (ds : List Deferred)
    (hL : ∀ C : Act → World → Prop, (∀ a w, Q .normal a w → C a w) → ∀ a w, At w0 B0 M0 N K a w → a.defers = ds → wpOpIn F d P mops Q l C a w) :
    ∀ (fuel : Nat) (listed : Array Bool) (e : EnvF) (h : HeapF) (μ : Nat → Value) (a : Act) (w : World), Sim w0 B0 M0 N μ e h a w → a.defers = ds → Rooms vops n0 listed h → listed.size = mops.size → listed.getD l true = false → (∀ j, j < l → listed.getD j true = false → Waits mops listed j l) →
    anyF G mops vops n0 K fuel listed e h → wpAnyIn F d P .any mops Q fuel listed a w
  | 0, listed, e, h, μ, a, w, S, hds, hr, hls, hun, hwt, hx => by
    obtain ⟨k, hk⟩ := some_ready hlow hls (l + 1) l (by omega) (by omega) hun
    rw [hx.1] at hk
    cases hk
  | fuel + 1, listed, e, h, μ, a, w, S, hds, hr, hls, hun, hwt, hx => by
    refine ⟨fun h0 => ?_, fun i hi => ?_⟩
    · obtain ⟨k, hk⟩ := some_ready hlow hls (l + 1) l (by omega) (by omega) hun
      rw [h0] at hk
      cases hk
    obtain ⟨hlt, hiun⟩ := ready_lt hi
    by_cases hil : i = l
    · subst hil
      have hk := hx.2 i hi _ hfake
      have hk : anyF G mops vops n0 K fuel (listed.setIfInBounds i true) e h := by
        simp only [stepF, fakeOp, exF, opF, Arg.val] at hk
        obtain ⟨v, objs, h1, h2⟩ := hk
        cases h1
        rw [fnew_nil] at h2
        exact h2
      have hnone : Region.ready .any mops (listed.setIfInBounds i true) = [] := by
        rw [List.eq_nil_iff_forall_not_mem]
        intro j hj
        obtain ⟨hj1, hj2⟩ := ready_lt hj
        rw [Array.size_setIfInBounds] at hj1
        have hji : j ≠ i := by
          rintro rfl
          simp [hj1] at hj2
        rw [getD_set_ne true (Ne.symm hji)] at hj2
        exact (hwt j (by omega) hj2).not_ready hi hj2
      exact hL _ (fun a w hq => wpAnyIn_done hnone hq fuel) a w ⟨μ, e, h, S, anyF_done hnone hk⟩ hds
    · have hl : i < vops.length := by omega
      have ho : vops[i]? = some vops[i] := List.getElem?_eq_getElem hl
      obtain ⟨mo, hmo, hc⟩ := hT i _ (by omega) ho
      obtain ⟨e', h', h1, h2⟩ := (stepF_point prims G).1 (hx.2 i hi _ ho)
      refine wpOp_in hF (hnd i) (stepF_sound S hmo hc hG (fun id h3 h4 => hr i _ ho hiun id h3 h4) h1 ?_)
      rintro a' w' ⟨μ', _, _, S', rfl, rfl⟩ hds'
      refine anyF_sound_last hF hG hsz hfake hT hvl hnd hlow ds hL fuel _ _ _ μ' a' w' S' (hds'.trans hds) (hr.step ho (stepF_dom prims G h1) hlt) (by rw [Array.size_setIfInBounds]; exact hls) (by rw [getD_set_ne true hil]; exact hun) (fun j hj hju => ?_) h2
      have hji : i ≠ j := by
        rintro rfl
        simp [hlt] at hju
      rw [getD_set_ne true hji] at hju
      exact (hwt j hj hju).step hi hju
theorem exOp_mono0 {B : Prim} {K K' : Cont} (hk : ∀ e h n, K e h n → K' e h n) {o : Op} {dst : Option Nat} {e : Env} {h : Heap} {n : Nat} : exOp B G o dst e h n K → exOp B G o dst e h n K' := by
  cases o <;> simp only [exOp] <;> (repeat' split) <;>
    first
    | exact hk _ _ _
    | exact id
    | (rintro ⟨r, h1, h2⟩; exact ⟨r, h1, hk _ _ _ h2⟩)
    | (rintro ⟨r, h1, h2, h3⟩; exact ⟨r, h1, h2, hk _ _ _ h3⟩)
    | (rintro ⟨h1, h2, h3⟩; exact ⟨h1, h2, hk _ _ _ h3⟩)
theorem exOps_mono0 {B : Prim} : ∀ {l : List Oper} {K K' : Cont} (hk : ∀ e h n, K e h n → K' e h n) {e : Env} {h : Heap} {n : Nat}, exOps B G l e h n K → exOps B G l e h n K'
  | [], _, _, hk, _, _, _, hx => hk _ _ _ hx
  | ⟨dst, o, none⟩ :: r, _, _, hk, _, _, _, hx => by
    simp only [exOps] at hx ⊢
    exact exOp_mono0 (fun e h n hh => exOps_mono0 hk hh) hx
  | ⟨dst, o, some (t, want)⟩ :: r, _, _, hk, e, h, n, hx => by
    simp only [exOps] at hx ⊢
    cases hb : Arg.bool e.get (.t t) with
    | none =>
      rw [hb] at hx
      dsimp only at hx ⊢
      split at hx
      · exact exOps_mono0 hk hx
      · exact hx
    | some b =>
      rw [hb] at hx
      cases b <;> cases want <;> dsimp only at hx ⊢
      · exact exOp_mono0 (fun e h n hh => exOps_mono0 hk hh) hx
      · exact exOps_mono0 hk hx
      · exact exOps_mono0 hk hx
      · exact exOp_mono0 (fun e h n hh => exOps_mono0 hk hh) hx
theorem exOps_append {B : Prim} : ∀ {l r : List Oper} {e : Env} {h : Heap} {n : Nat} {K : Cont}, exOps B G l e h n (fun e h n => exOps B G r e h n K) → exOps B G (l ++ r) e h n K
  | [], _, _, _, _, _, hx => hx
  | ⟨dst, o, none⟩ :: l, r, e, h, n, K, hx => by
    simp only [exOps, List.cons_append] at hx ⊢
    exact exOp_mono0 (fun e h n hh => exOps_append hh) hx
  | ⟨dst, o, some (t, want)⟩ :: l, r, e, h, n, K, hx => by
    simp only [exOps, List.cons_append] at hx ⊢
    cases hb : Arg.bool e.get (.t t) with
    | none =>
      rw [hb] at hx
      dsimp only at hx ⊢
      split at hx
      · exact exOps_append hx
      · exact hx
    | some b =>
      rw [hb] at hx
      cases b <;> cases want <;> dsimp only at hx ⊢
      · exact exOp_mono0 (fun e h n hh => exOps_append hh) hx
      · exact exOps_append hx
      · exact exOps_append hx
      · exact exOp_mono0 (fun e h n hh => exOps_append hh) hx
/-- **A region that draws,** its last operation told apart. -/
theorem any_last_in (hF : Opn F) (hm : P.follows .mixedOrders = true) (hG : Known P G w0 B0) {pre : List Oper} (hsz : mops.size = pre.length + 1) (hT : ∀ (j : Nat) (o : Oper), pre[j]? = some o → ∃ mo, mops[j]? = some mo ∧ chkOper P N mops mo o = true)
    (hnd : ∀ (i : Nat) (o : Go.Oper), mops[i]? = some o → notDefer o.op = true) (hlow : lowB mops = true) (hlast : lastB mops pre.length = true) (hB : lexV mops (pre ++ [fakeOp]) (pre.length + 1) 0 (Array.replicate mops.size false) = true)
    {K : Cont} {rid n : Nat} {e : Env} {h : Heap} {μ : Nat → Value} {a : Act} {w : World} (S : Sim w0 B0 M0 N μ e.get h.get a w) (hf : Fresh h.get n) (hx : exOps prims G pre e h n K)
    (hL : ∀ C : Act → World → Prop, (∀ a w, Q .normal a w → C a w) → ∀ a' w, AtL w0 B0 M0 N K a' w → a'.defers = a.defers → wpOpIn F d P mops Q pre.length C a' w) : (Go.Code.region rid mops true).wpIn F d P Q a w := by
  have hlen : (pre ++ [fakeOp]).length = pre.length + 1 := by simp
  have hfk : (pre ++ [fakeOp])[pre.length]? = some fakeOp := by simp
  have hpre : ∀ (j : Nat) (o : Oper), j < pre.length → (pre ++ [fakeOp])[j]? = some o → ∃ mo, mops[j]? = some mo ∧ chkOper P N mops mo o = true := fun j o hj ho => hT j o (by rw [List.getElem?_append_left hj] at ho; exact ho)
  have hTF : ToldF P N mops (pre ++ [fakeOp]) := fun j o ho => by
    by_cases hj : j < pre.length
    · exact .inr (hpre j o hj ho)
    · have := (List.getElem?_eq_some_iff.1 ho).1
      have hjl : j = pre.length := by omega
      subst hjl
      rw [hfk] at ho
      exact .inl (Option.some.inj ho).symm
  have h0 : nsOf (pre ++ [fakeOp]) n 0 = n := by cases pre <;> rfl
  refine wpIn_region_any hm ?_
  have S' := S.drew
  have hr : Rooms (pre ++ [fakeOp]) n (Array.replicate mops.size false) h.get := fun j o _ _ id h1 _ => hf id (Nat.le_trans (nsOf_le _ n j) h1)
  have hx' : exOps prims G (pre ++ [fakeOp]) e h n K := exOps_append (exOps_mono0 (fun e h n hk => by
    simp only [exOps, fakeOp, exOp, opF, Arg.val, Env.puto, Heap.new, Op.fresh, Nat.add_zero]
    exact hk) hx)
  have hwait : ∀ j, j < pre.length → (Array.replicate mops.size false).getD j true = false → Waits mops (Array.replicate mops.size false) j pre.length := fun j hj _ => by
    simp only [lastB, List.all_eq_true, List.mem_range] at hlast
    exact waitSet_spec mops.toList 0 [] (fun k => by simp) (by simp) _ (has_mem.1 (hlast j hj))
  have hgo := anyF_lex (w0 := w0) (B0 := B0) (M0 := M0) hG hTF (pre ++ [fakeOp]) 0 (Array.replicate mops.size false) _ _ (fun j => by simp) (by rw [hlen]; exact hB) ⟨μ, a, _, S'⟩ hr (chain_of_exOps (n0 := n) (pre ++ [fakeOp]) 0 e h (fun j => by simp) (by rw [h0]; exact hf) (by rw [h0]; exact hx'))
  rw [hlen, ← hsz] at hgo
  refine anyF_sound_last hF hG hsz hfk hpre hlen hnd hlow a.defers ?_ _ _ _ _ μ a _ S' rfl hr (by simp) (by simp [Array.getD, hsz]) hwait hgo
  rintro C hC a' w' ⟨μ', _, _, S'', el, hl, n', rfl, rfl, hf', hk⟩ hds
  exact hL C hC a' w' ⟨μ', el, hl, n', S'', hf', hk⟩ hds
end
end Go.Vi
namespace Go.Vi
open Go.RowKit
set_option linter.unusedVariables false

section
variable {P : Program} {w0 : World} {B0 M0 : Nat → Prop} {N N' : Nat} {μ : Nat → Value} {a : Act} {w : World} {n : Nat}

/-- The record is laid. -/
theorem Sim.newLp {e : EnvF} {h : Heap} (S : Sim w0 B0 M0 N μ e h.get a w) (hf : Fresh h.get n) (ρ : Loop) (st : LoopState) (p : Option Go.Code) :
    Sim w0 B0 M0 N (fun i => if i = n then .map (some w.heap.size) else μ i) e (h ++ [(n, Obj.lp w.heap.size ρ st p)]).get a (w.alloc (.loop { ρ with state := st, pending := p })) ∧ Fresh (h ++ [(n, Obj.lp w.heap.size ρ st p)]).get (n + 1) ∧
      ∀ v u, RV (Mut M0 μ h.get) w μ (shapes h.get) v u → RV (Mut M0 (fun i => if i = n then .map (some w.heap.size) else μ i) (h ++ [(n, Obj.lp w.heap.size ρ st p)]).get) (w.alloc (.loop { ρ with state := st, pending := p })) (fun i => if i = n then .map (some w.heap.size) else μ i) (shapes (h ++ [(n, Obj.lp w.heap.size ρ st p)]).get) v u := by
  obtain ⟨hnew, hfr⟩ := Heap.get_new [Obj.lp w.heap.size ρ st p] h n hf
  have hx : (h ++ [(n, Obj.lp w.heap.size ρ st p)]).get = fnew h.get n [.lp w.heap.size ρ st p] := hnew
  have hb : Below w.heap.size w (w.alloc (.loop { ρ with state := st, pending := p })) := below_alloc w _
  have hμ : ∀ id o, h.get id = some o → (fun i => if i = n then Value.map (some w.heap.size) else μ i) id = μ id := by
    intro id o hid
    have : id ≠ n := fun he => by subst he; rw [hf id (Nat.le_refl _)] at hid; cases hid
    simp [this]
  have hfn : ∀ id, n ≤ id → id < n + [Obj.lp w.heap.size ρ st p].length → h.get id = none := fun id h1 _ => hf id h1
  have h1 : ∀ j (o : Obj), [Obj.lp w.heap.size ρ st p][j]? = some o → j = 0 ∧ o = .lp w.heap.size ρ st p := by
    intro j o hj
    match j, hj with
    | 0, hj => exact ⟨rfl, by simpa using hj.symm⟩
  have hM : ∀ k, k < w.heap.size → Mut M0 (fun i => if i = n then .map (some w.heap.size) else μ i) (fnew h.get n [.lp w.heap.size ρ st p]) k → Mut M0 μ h.get k := by
    rintro k hk (h2 | ⟨id, o, h2, h3⟩)
    · exact .inl h2
    · rcases fnew_inv h2 with h4 | ⟨j, rfl, h4⟩
      · exact .inr ⟨id, o, h4, by rw [← hμ id o h4]; exact h3⟩
      · obtain ⟨rfl, rfl⟩ := h1 j o h4
        simp [blkOf] at h3
        omega
  have hA : Agree μ (fun i => if i = n then Value.map (some w.heap.size) else μ i) (shapes h.get) (shapes (fnew h.get n [.lp w.heap.size ρ st p])) := by
    intro id x hx
    unfold shapes at hx ⊢
    cases hi : h.get id with
    | none => simp [hi] at hx
    | some o =>
      rw [hi] at hx
      exact ⟨by rw [fnew_old hfn hi]; exact hx, hμ id o hi⟩
  rw [hx]
  refine ⟨S.new (n := n) (objs := [.lp w.heap.size ρ st p]) (μ' := fun i => if i = n then .map (some w.heap.size) else μ i) hfn hμ hb
    (fun j o k hj hk => by obtain ⟨rfl, rfl⟩ := h1 j o hj; simp [blkOf] at hk; subst hk; simp)
    (fun i j o p k hi hj _ _ => by obtain ⟨rfl, _⟩ := h1 i o hi; obtain ⟨rfl, _⟩ := h1 j p hj; rfl)
    (fun j o hj => by
      obtain ⟨rfl, rfl⟩ := h1 j o hj
      exact ⟨by simp, by show (w.heap.push _)[w.heap.size]? = _; simp⟩), by rw [← hx]; exact hfr, fun v u hr => hr.keep (Leaves.of_below hb) hM hA⟩

/-- The round's slots. -/
theorem putVs_sound {R : V → Value → Prop} : ∀ {ps : List Nat} {vs : List V} {xs : List Value} {e eR : Env} {tm : Array Value}, putVs e ps vs = some eR → All2 R vs xs → (∀ p ∈ ps, p < tm.size) → (∀ t v, e.get t = some v → ∃ u, tm[t]? = some u ∧ R v u) →
    ps.length = xs.length ∧ ((ps.zip xs).foldl (fun tmps (p : Nat × Value) => tmps.setIfInBounds p.1 p.2) tm).size = tm.size ∧ ∀ t v, eR.get t = some v → ∃ u, ((ps.zip xs).foldl (fun tmps (p : Nat × Value) => tmps.setIfInBounds p.1 p.2) tm)[t]? = some u ∧ R v u
  | [], [], [], e, eR, tm, h, _, _, he => by
    simp only [putVs, Option.some.injEq] at h
    subst h
    exact ⟨rfl, rfl, he⟩
  | [], _ :: _, _, _, _, _, h, _, _, _ => by simp [putVs] at h
  | _ :: _, [], _, _, _, _, h, _, _, _ => by simp [putVs] at h
  | [], [], _ :: _, _, _, _, _, h, _, _ => h.elim
  | _ :: _, _ :: _, [], _, _, _, _, h, _, _ => h.elim
  | p :: ps, v :: vs, x :: xs, e, eR, tm, h, hall, hp, he => by
    simp only [putVs] at h
    have hpt := hp p List.mem_cons_self
    obtain ⟨h1, h2, h3⟩ := putVs_sound (tm := tm.setIfInBounds p x) h hall.2 (fun q hq => by simpa using hp q (List.mem_cons_of_mem _ hq)) (fun t u hu => by
      rw [Env.get_put] at hu
      by_cases ht : t = p
      · subst ht
        simp at hu
        subst hu
        exact ⟨x, by simp [hpt], hall.1⟩
      · simp [ht] at hu
        obtain ⟨y, h4, h5⟩ := he t u hu
        exact ⟨y, by rw [Array.getElem?_setIfInBounds_ne (Ne.symm ht)]; exact h4, h5⟩)
    exact ⟨by simp [h1], by simpa using h2, by simpa using h3⟩
theorem foldl_zip (ps : Array Tmp) (xs tm : Array Value) : (ps.zip xs).foldl (fun tmps (t, a) => tmps.setIfInBounds t a) tm = (ps.toList.zip xs.toList).foldl (fun tmps (p : Nat × Value) => tmps.setIfInBounds p.1 p.2) tm := by
  rw [← Array.toList_zip, Array.foldl_toList]
end
end Go.Vi
namespace Go.Vi
open Go.RowKit
set_option linter.unusedVariables false

/-! ### results -/
def resOk (P : Program) : ResultVar → Res → Bool
  | .tmp t, .tmp s => t == s
  | .cell t ty, .cell s agg k => t == s && aggIs P ty agg && sizeIs P ty k && (agg || k == 1)
  | _, _ => false
def ressOk (P : Program) : List ResultVar → List Res → Bool
  | [], [] => true
  | x :: xs, y :: ys => resOk P x y && ressOk P xs ys
  | _, _ => false

section
variable {P : Program} {w0 : World} {B0 M0 : Nat → Prop} {N : Nat} {μ : Nat → Value} {e : EnvF} {h : HeapF} {a : Act} {w : World}

/-- One result. -/
def resRun (tmps : Array Value) : ResultVar → Sem Value
  | .tmp t => pure (tmps.getD t undef)
  | .cell t ty => do loadVar ty (← asAddr (tmps.getD t undef))
theorem results_eq (fn : Func) (tmps : Array Value) : results fn tmps = (do
    let vs ← fn.results.mapM (resRun tmps)
    pure (if h : vs.size = 1 then vs[0] else .tuple vs)) := by
  unfold results
  congr 1
theorem res_sound (S : Sim w0 B0 M0 N μ e h a w) {x : ResultVar} {y : Res} {b : Bool} {cs : List C} (ho : resOk P x y = true) (hv : y.val prims e h = some (b, cs)) :
    ∃ u, (resRun a.tmps x).run P w = .ok u w ∧ RV (Mut M0 μ h) w μ (shapes h) (.v b cs) u := by
  cases x with
  | tmp t =>
    cases y with
    | tmp s =>
      simp only [resOk, beq_iff_eq] at ho
      subst ho
      simp only [Res.val] at hv
      split at hv
      · rename_i b' cs' hx
        cases hv
        obtain ⟨u, h1, h2⟩ := S.env _ _ hx
        exact ⟨u, by simp only [resRun, getD_of h1]; rfl, h2⟩
      · cases hv
    | cell _ _ _ => cases ho
  | cell t ty =>
    cases y with
    | tmp s => cases ho
    | cell s agg k =>
      simp only [resOk, Bool.and_eq_true, beq_iff_eq, Bool.or_eq_true] at ho
      obtain ⟨⟨⟨rfl, h1⟩, h2⟩, h3⟩ := ho
      simp only [Res.val] at hv
      split at hv
      · rename_i c hc
        split at hv
        · rename_i cs' hcs
          cases hv
          obtain ⟨u, h4, h5⟩ := S.env _ _ (Arg.cell_val hc)
          obtain ⟨ad, us, hu, hall, hl, hcell⟩ := readAt_cells S (RV_cell.1 h5) hcs
          refine ⟨mkV b us, ?_, us, hall, okLen_of (by rw [hl]; exact h3), rfl⟩
          have h6 : a.tmps.getD t undef = u := getD_of h4
          simp only [resRun, h6, hu]
          simp [asAddr, run_loadVar_cells h1 h2 h3 hl hcell]
        · cases hv
      · cases hv

theorem ress_sound (S : Sim w0 B0 M0 N μ e h a w) : ∀ {xs : List ResultVar} {ys : List Res} {vs : List (Bool × List C)}, ressOk P xs ys = true → resL prims e h ys = some vs →
    ∃ us : List Value, (xs.mapM (resRun a.tmps)).run P w = .ok us w ∧ All2 (fun p u => RV (Mut M0 μ h) w μ (shapes h) (.v p.1 p.2) u) vs us
  | [], [], vs, _, hv => by
    simp only [resL, Option.some.injEq] at hv
    subst hv
    exact ⟨[], by simp, trivial⟩
  | [], _ :: _, _, ho, _ => by simp [ressOk] at ho
  | _ :: _, [], _, ho, _ => by simp [ressOk] at ho
  | x :: xs, y :: ys, vs, ho, hv => by
    simp only [ressOk, Bool.and_eq_true] at ho
    simp only [resL] at hv
    split at hv
    · rename_i p hp
      split at hv
      · rename_i vs' hvs
        cases hv
        obtain ⟨b, cs⟩ := p
        obtain ⟨u, h1, h2⟩ := res_sound S ho.1 hp
        obtain ⟨us, h3, h4⟩ := ress_sound S ho.2 hvs
        exact ⟨u :: us, by rw [List.mapM_cons]; simp only [Sem.run_bind, h1, Result.andThen_ok, h3]; simp, h2, h4⟩
      · cases hv
    · cases hv

theorem freezeP_sound (S : Sim w0 B0 M0 N μ e h a w) : ∀ {vs : List (Bool × List C)} {ds : List DV} {us : List Value}, freezeP h vs = some ds → All2 (fun p u => RV (Mut M0 μ h) w μ (shapes h) (.v p.1 p.2) u) vs us → All2 (RDV M0 w) ds us
  | [], ds, [], hf, _ => by simp only [freezeP, Option.some.injEq] at hf; subst hf; trivial
  | [], _, _ :: _, _, hr => hr.elim
  | _ :: _, _, [], _, hr => hr.elim
  | (b, cs) :: vs, ds, u :: us, hf, hr => by
    simp only [freezeP] at hf
    split at hf
    · rename_i d is hd
      split at hf
      · rename_i l hl
        cases hf
        have h1 : freezeV h (.v b cs) = some ((b, d), is) := by simp only [freezeV, hd]
        refine ⟨freezeV_sound S (M := M0) (fun k hk => .inl hk) h1 (fun id hid k hk hm => ?_) hr.1, freezeP_sound S hl hr.2⟩
        obtain ⟨o, ho⟩ := Option.ne_none_iff_exists'.1 (freezeV_ids h1 id hid)
        exact (S.own id o k ho hk).2.2 hm
      · cases hf
    · cases hf
end

def chkOps (P : Program) (N : Nat) (mops : Array Go.Oper) : List Go.Oper → List Oper → Bool
  | [], [] => true
  | m :: ms, o :: os => chkOper P N mops m o && chkOps P N mops ms os
  | _, _ => false
/-- No range over a function in it. -/
def noIter : Code → Bool
  | .seq a b => noIter a && noIter b
  | .cond _ a b => noIter a && noIter b
  | .block _ a => noIter a
  | .loop _ a => noIter a
  | .scope a => noIter a
  | .frz _ a => noIter a
  | .iter _ _ _ _ _ => false
  | _ => true
def noDef (ops : Array Go.Oper) : Bool := ops.toList.all fun o => notDefer o.op
abbrev Rng := Array Tmp × Go.Code × Go.Code × Nat
def chkCode (P : Program) : Option Rng → Bool → Nat → Go.Code → Code → Bool
  | _, _, _, .skip, .skip => true
  | _, _, _, .label _, .skip => true
  | _, _, N, .region _ ops draw, .region vops _ => chkOps P N ops ops.toList vops && (!draw || lexV ops vops vops.length 0 (Array.replicate ops.size false)) && noDef ops
  | y, r, N, .seq a b, .seq x z => chkCode P y r N a x && chkCode P y r N b z
  | y, r, N, .cond c a b, .cond q x z => argOk c q && chkCode P y r N a x && chkCode P y r N b z
  | y, r, N, .block i a, .block j x => i == j && chkCode P y r N a x
  | y, r, N, .loop a, .loop _ x => chkCode P y r N a x
  | _, _, _, .exit i, .exit j => i == j
  | _, _, _, .ret, .ret => true
  | y, r, N, .scope a, .scope x => !r && chkCode P y r N a x
  | y, r, N, c, .frz _ x => chkCode P y r N c x
  | _, _, N, .region _ ops draw, .inl pre dst x f k args body rs post _ => (match P.funcs[f]? with
    | some fn => (match fn.body with
      | some c => chkCode P none false fn.ntmps c body
      | none => false) && ressOk P fn.results.toList rs && decide (k ≤ fn.ntmps) && !(fn.name == "runtime.NumGoroutine")
    | none => false) && (!draw || (post.isEmpty && lexV ops (pre ++ [fakeOp]) (pre.length + 1) 0 (Array.replicate ops.size false) && lowB ops && lastB ops pre.length)) && chkOps P N ops ops.toList (pre ++ (⟨dst, inlOp x f args, none⟩ :: post)) && noDef ops && noIter body
  | _, r, N, .rangeFunc g ps ma mb, .iter x f k body _ => (match P.funcs[f]? with
    | some fn => (match fn.body with
      | some c => chkCode P (some (ps, ma, mb, N)) false fn.ntmps c body
      | none => false) && fn.results.isEmpty && decide (k ≤ fn.ntmps) && !(fn.name == "runtime.NumGoroutine")
    | none => false) && !r && argOk g x && noIter body
  | y, r, N, .region _ ops draw, .yld pre dst z args params assign body post _ => (match y with
    | some (ps, ma, mb, N0) => ps.toList == params && chkCode P none true N0 ma assign && chkCode P none true N0 mb body && params.all (fun t => decide (t < N0)) && args.length == params.length
    | none => false) && !r && !draw && chkOps P N ops ops.toList (pre ++ (⟨dst, .callVH z args, none⟩ :: post)) && noDef ops
  | _, _, _, _, _ => false
def Out.toExit : Out → Exit
  | .normal => .normal
  | .exit i => .exit i
  | .ret => .ret

section
variable {P : Program} {w0 : World} {B0 M0 : Nat → Prop} {N : Nat} {G : Nat → List DV → R → Prop} {Q : Exit → Act → World → Prop} {mops : Array Go.Oper} {vops : List Oper} {n0 : Nat}

theorem chkOps_get {mops : Array Go.Oper} : ∀ {ms : List Go.Oper} {os : List Oper}, chkOps P N mops ms os = true → ms.length = os.length ∧ ∀ (j : Nat) (o : Oper), os[j]? = some o → ∃ mo, ms[j]? = some mo ∧ chkOper P N mops mo o = true
  | [], [], _ => ⟨rfl, fun j o h => by simp at h⟩
  | [], _ :: _, h => by simp [chkOps] at h
  | _ :: _, [], h => by simp [chkOps] at h
  | m :: ms, o :: os, h => by
    simp only [chkOps, Bool.and_eq_true] at h
    obtain ⟨h1, h2⟩ := chkOps_get h.2
    refine ⟨by simp [h1], fun j p hj => ?_⟩
    cases j with
    | zero => simp at hj; subst hj; exact ⟨m, rfl, h.1⟩
    | succ j => simpa using h2 j p (by simpa using hj)

/-- An array is told as data. -/
theorem Sim.frozen {w0 : World} {B0 M0 : Nat → Prop} {N : Nat} {μ : Nat → Value} {e : Env} {h : Heap} {a : Act} {w : World} {n t id ty sz : Nat} {es : List (List D)} (S : Sim w0 B0 M0 N μ e.get h.get a w) (hf : Fresh h.get n) (ht : e.get t = some (.v false [.own id])) (hid : h.get id = some (.arr ty sz es)) :
    Sim w0 B0 M0 N μ ((e.drops [id]).put t (.v false [.d (.row sz es)])).get (h.dels [id]).get a w ∧ Fresh (h.dels [id]).get n := by
  have hids : ∀ i ∈ [id], h.get i ≠ none := fun i hi => by rw [List.mem_singleton] at hi; subst hi; rw [hid]; simp
  obtain ⟨u, hu, us, hall, hok, rfl⟩ := S.env t _ ht
  match us, hall with
  | [v], hall =>
    have hd := freeze_sound S (M := MutBut M0 μ h.get [id]) (fun b hb => hb.sub) depth (.own id) (.row sz es) [id] v (by simp [depth, freezeC, hid]) (MutBut.not S hids) hall.1
    have S' := S.forgets [id]
    refine ⟨?_, ?_⟩
    · have hd' : RD (Mut M0 μ (fdels h.get [id])) w (.row sz es) v := hd.step (Leaves.refl _ _) fun k _ hm => by
        rcases hm with hm | ⟨i, o, h6, h7⟩
        · exact .inl hm
        · obtain ⟨h8, o', h9⟩ := fdels_sub [id] h6
          exact .inr ⟨i, o', h8, h9, h7⟩
      rw [Heap.get_dels]
      refine ⟨S'.tmps, S'.defers, fun s x hx => ?_, S'.heap, S'.inj, S'.own, S'.old, S'.os, S'.tape, S'.output, S'.size, S'.frame⟩
      rw [Env.get_put] at hx
      split at hx
      · rename_i hs
        cases hx
        subst hs
        exact ⟨_, hu, [v], ⟨hd', trivial⟩, rfl, rfl⟩
      · rw [Env.get_drops] at hx
        exact S'.env s x hx
    · intro i hi
      rw [Heap.get_dels]
      cases hx : fdels h.get [id] i with
      | none => rfl
      | some o =>
        obtain ⟨_, o', h1⟩ := fdels_sub [id] hx
        rw [hf i hi] at h1
        cases h1
/-- **What is run holds of the machine.** -/
theorem ex_sound (hm : P.follows .mixedOrders = true) (hG : Known P G w0 B0) : ∀ (v : Code) (F : Fence) (hF : Opn F) (r : Bool) (hr : r = false → F = Fence.wide) (yc : Option Rng) (Y : Option Loop) (hY : ∀ ρ, some ρ = Y → ∃ N0, yc = some (ρ.params, ρ.assign, ρ.body, N0) ∧ ρ.tmps.size = N0) (N d : Nat) (c : Go.Code), chkCode P yc r N c v = true →
    ∀ (e : Env) (h : Heap) (n : Nat) (μ : Nat → Value) (a : Act) (w : World) (K : Out → Cont) (Q : Exit → Act → World → Prop),
    Sim w0 B0 M0 N μ e.get h.get a w → Fresh h.get n → ex prims G Y v e h n K → (∀ o a' w', AtL w0 B0 M0 N (K o) a' w' → (noIter v = true → a'.defers = a.defers) → Q o.toExit a' w') → c.wpIn F d P Q a w := by
  have ndef : ∀ {ops : Array Go.Oper}, noDef ops = true → ∀ (i : Nat) (o : Go.Oper), ops[i]? = some o → notDefer o.op = true := by
    intro ops h i o hi
    unfold noDef at h
    rw [List.all_eq_true] at h
    exact h o (List.mem_of_getElem? (by simpa using hi))
  have nY : ∀ ρ, some ρ = (none : Option Loop) → ∃ N0, (none : Option Rng) = some (ρ.params, ρ.assign, ρ.body, N0) ∧ ρ.tmps.size = N0 := fun ρ h => by cases h
  intro v
  induction v with
  | skip =>
    intro F hF r hr yc Y hY N d c hc e h n μ a w K Q S hf hx hQ
    cases c <;> simp only [chkCode, Bool.false_eq_true] at hc
    · exact wpIn_skip (hQ .normal a w ⟨μ, e, h, n, S, hf, hx⟩ fun _ => rfl)
    · exact wpIn_label (hQ .normal a w ⟨μ, e, h, n, S, hf, hx⟩ fun _ => rfl)
  | region vops live =>
    intro F hF r hr yc Y hY N d c hc e h n μ a w K Q S hf hx hQ
    cases c <;> simp only [chkCode, Bool.false_eq_true] at hc
    rename_i rid ops draw
    simp only [Bool.and_eq_true] at hc
    obtain ⟨⟨h1, h2⟩, hnd⟩ := hc
    obtain ⟨h3, h4⟩ := chkOps_get h1
    simp only [ex] at hx
    have key : ∀ a' w, AtL w0 B0 M0 N (fun e h n => K .normal (e.keep live) h n) a' w → a'.defers = a.defers → Q .normal a' w := by
      rintro a' w ⟨μ, e, h, n, S, hf, hk⟩ hds
      refine hQ .normal a' w ⟨μ, e.keep live, h, n, S.less fun t v hv => ?_, hf, hk⟩ fun _ => hds
      rw [Env.get_keep] at hv
      unfold fkeep at hv
      split at hv
      · exact hv
      · cases hv
    cases draw with
    | false =>
      refine wpIn_region ?_
      have h5 := seq_sound_in (mops := ops) (d := d) hF hG (ndef hnd) a.defers [] (fun a w h hds => by simpa only [wpOpsIn] using key a w h hds) vops 0 e h n μ a w (fun j o hj => by simpa using h4 j o hj) S rfl hf hx
      have h6 : ops.size = vops.length := by simpa using h3
      rw [h6, List.range_eq_range']
      simpa using h5
    | true =>
      have h6 : ops.size = vops.length := by simpa using h3
      exact any_sound_in hF hm hG ⟨h6, fun j o hj => by simpa using h4 j o hj⟩ (ndef hnd) (by simpa using h2) S hf hx key
  | seq x y ihx ihy =>
    intro F hF r hr yc Y hY N d c hc e h n μ a w K Q S hf hx hQ
    cases c <;> simp only [chkCode, Bool.false_eq_true] at hc
    rw [Bool.and_eq_true] at hc
    simp only [ex] at hx
    refine wpIn_seq (ihx F hF r hr yc Y hY N d _ hc.1 e h n μ a w _ _ S hf hx ?_)
    rintro o a1 w ⟨μ, e, h, n, S, hf, hk⟩ hds
    cases o with
    | normal => exact ihy F hF r hr yc Y hY N d _ hc.2 e h n μ a1 w K Q S hf hk fun o a2 w2 h2 hds2 => hQ o a2 w2 h2 fun hn => (by simp only [noIter, Bool.and_eq_true] at hn; exact (hds2 hn.2).trans (hds hn.1))
    | exit i => exact hQ (.exit i) a1 w ⟨μ, e, h, n, S, hf, hk⟩ fun hn => by simp only [noIter, Bool.and_eq_true] at hn; exact hds hn.1
    | ret => exact hQ .ret a1 w ⟨μ, e, h, n, S, hf, hk⟩ fun hn => by simp only [noIter, Bool.and_eq_true] at hn; exact hds hn.1
  | cond y x z ihx ihz =>
    intro F hF r hr yc Y hY N d c hc e h n μ a w K Q S hf hx hQ
    cases c <;> simp only [chkCode, Bool.false_eq_true] at hc
    simp only [Bool.and_eq_true] at hc
    simp only [ex] at hx
    split at hx
    · rename_i t ht
      have hev := S.bool hc.1.1 ht
      cases t with
      | true => exact wpIn_cond_true hev (ihx F hF r hr yc Y hY N d _ hc.1.2 e h n μ a w K Q S hf hx fun o a2 w2 h2 hds2 => hQ o a2 w2 h2 fun hn => by simp only [noIter, Bool.and_eq_true] at hn; exact hds2 hn.1)
      | false => exact wpIn_cond_false hev (ihz F hF r hr yc Y hY N d _ hc.2 e h n μ a w K Q S hf hx fun o a2 w2 h2 hds2 => hQ o a2 w2 h2 fun hn => by simp only [noIter, Bool.and_eq_true] at hn; exact hds2 hn.2)
    · exact hx.elim
  | block id x ihx =>
    intro F hF r hr yc Y hY N d c hc e h n μ a w K Q S hf hx hQ
    cases c <;> simp only [chkCode, Bool.false_eq_true] at hc
    simp only [Bool.and_eq_true, beq_iff_eq] at hc
    obtain ⟨rfl, hc⟩ := hc
    simp only [ex] at hx
    refine wpIn_block (ihx F hF r hr yc Y hY N d _ hc e h n μ a w _ _ S hf hx ?_)
    rintro o a w ⟨μ, e, h, n, S, hf, hk⟩ hds
    cases o with
    | normal => exact hQ .normal a w ⟨μ, e, h, n, S, hf, hk⟩ hds
    | ret => exact hQ .ret a w ⟨μ, e, h, n, S, hf, hk⟩ hds
    | exit i =>
      dsimp only [Out.toExit, Exit.inBlock]
      dsimp only at hk
      rw [nbeq] at hk
      split
      · rename_i hi
        simp only [hi, decide_true] at hk
        exact hQ .normal a w ⟨μ, e, h, n, S, hf, hk⟩ hds
      · rename_i hi
        simp only [hi, decide_false] at hk
        exact hQ (.exit i) a w ⟨μ, e, h, n, S, hf, hk⟩ hds
  | loop live x ihx =>
    intro F hF r hr yc Y hY N d c hc e h n μ a w K Q S hf hx hQ
    cases c <;> simp only [chkCode, Bool.false_eq_true] at hc
    simp only [ex] at hx
    obtain ⟨I, k0, h1, h2⟩ := hx.out
    obtain ⟨S', hf', hI⟩ := tidy_sound S h1
    refine wpIn_ghost (fun k a' w => ∃ μ e h, Sim w0 B0 M0 N μ e.get h.get a' w ∧ Fresh h.get n ∧ I k e h ∧ (noIter x = true → a'.defers = a.defers)) k0 ⟨μ, _, _, S', hf', hI, fun _ => rfl⟩ ?_
    rintro k a1 w ⟨μ, e, h, S, hf, hI, hds⟩
    refine ihx F hF r hr yc Y hY N d _ hc e h n μ a1 w _ _ S hf (h2 k e h hI) ?_
    rintro o a2 w ⟨μ, e', h', n', S, hf, hk⟩ hds2
    cases o with
    | normal =>
      rcases hk with hk | ⟨p, q, hk⟩
      · obtain ⟨S', hf', k', hlt, hI'⟩ := tidy_sound S hk
        exact ⟨k', hlt, μ, _, _, S', hf', hI', fun hn => (hds2 hn).trans (hds hn)⟩
      · obtain ⟨μ', e2, h3, S', hf', k', hlt, hI'⟩ := tidyR_sound S hk
        exact ⟨k', hlt, μ', _, _, S', hf', hI', fun hn => (hds2 hn).trans (hds hn)⟩
    | exit i => exact hQ (.exit i) a2 w ⟨μ, e', h', n', S, hf, hk⟩ fun hn => (hds2 hn).trans (hds hn)
    | ret => exact hQ .ret a2 w ⟨μ, e', h', n', S, hf, hk⟩ fun hn => (hds2 hn).trans (hds hn)
  | exit id =>
    intro F hF r hr yc Y hY N d c hc e h n μ a w K Q S hf hx hQ
    cases c <;> simp only [chkCode, Bool.false_eq_true] at hc
    simp only [beq_iff_eq] at hc
    subst hc
    exact wpIn_exit (hQ (.exit _) a w ⟨μ, e, h, n, S, hf, hx⟩ fun _ => rfl)
  | ret =>
    intro F hF r hr yc Y hY N d c hc e h n μ a w K Q S hf hx hQ
    cases c <;> simp only [chkCode, Bool.false_eq_true] at hc
    exact wpIn_ret (hQ .ret a w ⟨μ, e, h, n, S, hf, hx⟩ fun _ => rfl)
  | frz t x ihx =>
    intro F hF r hr yc Y hY N d c hc e h n μ a w K Q S hf hx hQ
    have hc' : chkCode P yc r N c x = true := by cases c <;> simpa only [chkCode] using hc
    simp only [ex] at hx
    split at hx
    · rename_i id ht
      split at hx
      · rename_i ty sz es hid
        obtain ⟨S', hf'⟩ := S.frozen hf ht hid
        exact ihx F hF r hr yc Y hY N d c hc' _ _ n μ a w K Q S' hf' hx hQ
      · exact hx.elim
    · exact hx.elim
  | scope x ihx =>
    intro F hF r hr yc Y hY N d c hc e h n μ a w K Q S hf hx hQ
    cases c <;> simp only [chkCode, Bool.false_eq_true] at hc
    simp only [Bool.and_eq_true, Bool.not_eq_true'] at hc
    obtain ⟨rfl, hc⟩ := hc
    have hFw := hr rfl
    subst hFw
    simp only [ex] at hx
    refine wpIn_wide.2 (wp_scope_straight ((wpIn_wide (n := d)).1 (ihx _ hF false hr yc Y hY N d _ hc e h n μ a w K _ S hf hx ?_)))
    intro o a' w' h1 h2
    have := hQ o a' w' h1 h2
    cases o <;> exact this
  | inl pre dst x f k args body rs post live ih =>
    intro F hF r hr yc Y hY N d c hc e h n μ a w K Q S hf hx hQ
    cases c <;> simp only [chkCode, Bool.false_eq_true] at hc
    rename_i rid ops draw
    simp only [Bool.and_eq_true, Bool.or_eq_true, Bool.not_eq_true'] at hc
    obtain ⟨⟨⟨⟨h1, hdraw⟩, h2⟩, hnd⟩, hni⟩ := hc
    obtain ⟨h3, h4⟩ := chkOps_get h2
    split at h1
    · rename_i fn hfn
      simp only [Bool.and_eq_true, decide_eq_true_eq, Bool.not_eq_true'] at h1
      obtain ⟨⟨⟨h5, h6⟩, h7⟩, h8⟩ := h1
      split at h5
      · rename_i cb hcb
        simp only [ex] at hx
        have hsz : ops.size = pre.length + (1 + post.length) := by simp at h3; omega
        have hrange : List.range ops.size = List.range' 0 pre.length ++ (pre.length :: List.range' (pre.length + 1) post.length) := by
          rw [hsz, List.range_eq_range', Nat.add_comm 1 post.length, ← List.range'_append (step := 1), List.range'_succ]
          simp
        have hlast : ∃ mo, ops[pre.length]? = some mo ∧ chkOper P N ops mo ⟨dst, inlOp x f args, none⟩ = true := by simpa using h4 pre.length ⟨dst, inlOp x f args, none⟩ (by simp)
        have hpost : ∀ j o, post[j]? = some o → ∃ mo, ops[pre.length + 1 + j]? = some mo ∧ chkOper P N ops mo o = true := fun j o hj => by simpa using h4 (pre.length + 1 + j) o (by rw [List.getElem?_append_right (by omega), show pre.length + 1 + j - pre.length = j + 1 by omega]; simpa using hj)
        have last : ∀ (l : List Oper) (k : Nat) (e : Env) (h : Heap) (n : Nat) (μ : Nat → Value) (a2 : Act) (w : World), (∀ j o, l[j]? = some o → ∃ mo, ops[k + j]? = some mo ∧ chkOper P N ops mo o = true) → Sim w0 B0 M0 N μ e.get h.get a2 w → a2.defers = a.defers → Fresh h.get n →
            exOps prims G l e h n (fun e h n => K .normal (e.keep live) h n) → wpOpsIn F d P ops Q (List.range' k l.length) a2 w := by
          intro l k e h n μ a2 w hl S hds hf hx
          have := seq_sound_in (mops := ops) (d := d) (Q := Q) hF hG (ndef hnd) a.defers [] (fun a3 w3 h3 hds3 => by
            simp only [wpOpsIn]
            obtain ⟨μ, e, h, n, S, hf, hk⟩ := h3
            refine hQ .normal a3 w3 ⟨μ, e.keep live, h, n, S.less fun t v hv => ?_, hf, hk⟩ fun _ => hds3
            rw [Env.get_keep] at hv
            unfold fkeep at hv
            split at hv
            · exact hv
            · cases hv) l k e h n μ a2 w hl S hds hf hx
          simpa using this
        obtain ⟨mo, hmo, hck⟩ := hlast
        have core : ∀ C : Act → World → Prop, (∀ (e : Env) (h : Heap) (n : Nat) (μ : Nat → Value) (a2 : Act) (w : World), Sim w0 B0 M0 N μ e.get h.get a2 w → a2.defers = a.defers → Fresh h.get n → exOps prims G post e h n (fun e h n => K .normal (e.keep live) h n) → C a2 w) →
            ∀ a1 w, AtL w0 B0 M0 N (fun e h n => match argVs e.get x f args with
              | some vs => match Nat.beq vs.length k with
                | true => ∀ tm : Act, ex prims G none body (argEnvV 0 vs) (h ++ [(n, .saved tm e)]) (n + 1) (fun o e' h' n' => match o with
                  | .exit _ => False
                  | _ => match resL prims e'.get h'.get rs with
                    | some rv => match h'.get n with
                      | some (.saved tm' e1) => tm' = tm ∧ exOps prims G post (Env.puto e1 dst (resV rv)) (h'.del n) n' (fun e h n => K .normal (e.keep live) h n)
                      | _ => False
                    | none => False)
                | false => False
              | none => False) a1 w → a1.defers = a.defers → wpOpIn F d P ops Q pre.length C a1 w := by
          intro C hC
          rintro a1 w ⟨μ, e, h, n, S, hf, hk⟩ hds
          split at hk
          · rename_i vs hvs
            rw [nbeq] at hk
            by_cases hlen : vs.length = k
            · simp only [hlen, decide_true] at hk
              have hfit : Fit P f := fun as w => by
                have h6 : ¬ fn.name = "runtime.NumGoroutine" := by simpa using h8
                simp [callFunc, hfn, h6, hcb]
              unfold chkOper at hck
              simp only [Bool.and_eq_true, decide_eq_true_eq] at hck
              obtain ⟨⟨⟨hd1, hd2⟩, hd3⟩, hd4⟩ := hck
              have hguard : mo.guard = none := by
                split at hd4
                · assumption
                · rename_i hc' ; cases hc'
                · cases hd4
              obtain ⟨xs, hrun, hall⟩ := argVs_sound S hd3 hvs hfit
              refine wpOp_in hF (ndef hnd _) ?_
              unfold wpOp
              rw [hmo]
              dsimp only
              have hw : Region.wanted mo (yielded ops a1.tmps) = true := by simp [Region.wanted, hguard]
              rw [if_pos hw]
              refine .inl ?_
              unfold Oper.wp
              rw [hrun, Oper.upon_enter]
              refine calls_of_wp hfn hcb ?_
              obtain ⟨S1, hf1⟩ := S.enter (N' := fn.ntmps) hf hall (by rw [← hall.length, hlen]; exact h7)
              have ha1 := S.tmps
              have ha2 := S.defers
              refine (wpIn_wide (n := 0)).1 (ih Fence.wide (.inl rfl) false (fun _ => rfl) none none nY fn.ntmps 0 cb h5 _ _ _ _ _ w _ _ S1 hf1 (hk a1) ?_)
              have fin : ∀ a2 w2, AtL w0 B0 M0 fn.ntmps (fun e' h' n' => match resL prims e'.get h'.get rs with
                  | some rv => match h'.get n with
                    | some (.saved tm' e1) => tm' = a1 ∧ exOps prims G post (Env.puto e1 dst (resV rv)) (h'.del n) n' (fun e h n => K .normal (e.keep live) h n)
                    | _ => False
                  | none => False) a2 w2 → ∃ v, (results fn a2.tmps).run P w2 = .ok v w2 ∧ C (a1.put mo.dst v) w2 := by
                rintro a2 w2 ⟨μ2, e2, h2, n2, S2, hf2, hk2⟩
                split at hk2
                · rename_i rv hrv
                  split at hk2
                  · rename_i tm' e1 hn
                    obtain ⟨rfl, hk3⟩ := hk2
                    obtain ⟨us, hus, hall2⟩ := ress_sound S2 h6 hrv
                    obtain ⟨S3, hRV⟩ := S2.leave ha1 ha2 hn
                    have hres : (results fn a2.tmps).run P w2 = .ok (if h : us.toArray.size = 1 then us.toArray[0] else .tuple us.toArray) w2 := by
                      rw [results_eq, ← Array.toArray_toList (xs := fn.results), List.mapM_toArray]
                      simp [hus]
                    refine ⟨_, hres, ?_⟩
                    have hval : RV (Mut M0 μ2 (h2.del n).get) w2 μ2 (shapes (h2.del n).get) (resV rv) (if h : us.toArray.size = 1 then us.toArray[0] else .tuple us.toArray) := by
                      refine hRV _ _ ?_
                      match rv, us, hall2 with
                      | [], [], _ => exact ⟨[], rfl, trivial⟩
                      | [(b, cs)], [u], hh => exact hh.1
                      | _ :: _ :: _, [u], hh => exact hh.2.elim
                      | [_], _ :: _ :: _, hh => exact hh.2.elim
                      | x1 :: x2 :: xr, u1 :: u2 :: ur, hh => exact ⟨u1 :: u2 :: ur, by simp, hh⟩
                    have hdd : dstOk N mo.dst = true := by rw [hd1]; exact hd2
                    have S4 := S3.put hdd hval
                    rw [hd1, ← Env.get_puto] at S4
                    rw [hd1]
                    have hf4 : Fresh (h2.del n).get n2 := by
                      intro i hi
                      rw [Heap.get_del]
                      unfold fgone
                      split
                      · rfl
                      · exact hf2 i hi
                    exact hC _ _ n2 μ2 _ w2 S4 ((put_defers _ _ _).trans hds) hf4 hk3
                  · exact hk2.elim
                · exact hk2.elim
              rintro o a2 w2 hk2 hds2
              cases o with
              | normal => exact ⟨hds2 hni, fin a2 w2 hk2⟩
              | ret => exact ⟨hds2 hni, fin a2 w2 hk2⟩
              | exit i => obtain ⟨_, _, _, _, _, _, hk2⟩ := hk2; exact hk2.elim
            · simp only [hlen, decide_false] at hk
          · exact hk.elim
        rcases hdraw with rfl | ⟨⟨⟨hpe, hlx⟩, hlow⟩, hla⟩
        · refine wpIn_region ?_
          rw [hrange]
          refine seq_sound_in (mops := ops) hF hG (ndef hnd) a.defers _ ?_ pre 0 e h n μ a w (fun j o hj => by simpa using h4 j o (by rw [List.getElem?_append_left (List.getElem?_eq_some_iff.1 hj).1]; exact hj)) S rfl hf hx
          intro a1 w hat hds
          rw [wpOpsIn_cons]
          exact core _ (fun e h n μ a2 w S hd2 hf hx => last post (pre.length + 1) e h n μ a2 w hpost S hd2 hf hx) a1 w hat hds
        · have hpn : post = [] := by cases post with
            | nil => rfl
            | cons _ _ => cases hpe
          subst hpn
          have hdr : draw = true ∨ draw = false := by cases draw <;> simp
          rcases hdr with rfl | rfl
          · refine any_last_in hF hm hG (pre := pre) (by simpa using hsz) (fun j o hj => by simpa using h4 j o (by rw [List.getElem?_append_left (List.getElem?_eq_some_iff.1 hj).1]; exact hj)) (ndef hnd) hlow hla hlx S hf hx ?_
            intro C hC a1 w hat hds
            refine core C (fun e h n μ a2 w S hd2 hf hx => hC a2 w ?_) a1 w hat hds
            have := last [] (pre.length + 1) e h n μ a2 w hpost S hd2 hf hx
            simpa only [List.length_nil, List.range'_zero, wpOpsIn] using this
          · refine wpIn_region ?_
            rw [hrange]
            refine seq_sound_in (mops := ops) hF hG (ndef hnd) a.defers _ ?_ pre 0 e h n μ a w (fun j o hj => by simpa using h4 j o (by rw [List.getElem?_append_left (List.getElem?_eq_some_iff.1 hj).1]; exact hj)) S rfl hf hx
            intro a1 w hat hds
            rw [wpOpsIn_cons]
            exact core _ (fun e h n μ a2 w S hd2 hf hx => last [] (pre.length + 1) e h n μ a2 w hpost S hd2 hf hx) a1 w hat hds
      · cases h5
    · cases h1
  | iter x f k body live ih =>
    intro F hF r hr yc Y hY N d c hc e h n μ a w K Q S hf hx hQ
    cases c <;> simp only [chkCode, Bool.false_eq_true] at hc
    rename_i g ps ma mb
    simp only [Bool.and_eq_true, Bool.not_eq_true'] at hc
    obtain ⟨⟨⟨h1, rfl⟩, hg⟩, hni⟩ := hc
    have hFw := hr rfl
    subst hFw
    split at h1
    · rename_i fn hfn
      simp only [Bool.and_eq_true, decide_eq_true_eq, Bool.not_eq_true'] at h1
      obtain ⟨⟨⟨h5, h6⟩, h7⟩, h8⟩ := h1
      split at h5
      · rename_i cb hcb
        simp only [ex] at hx
        split at hx
        · rename_i c hcx
          split at hx
          · rename_i caps hcaps
            rw [nbeq] at hx
            by_cases hlen : caps.length + 1 = k
            · simp only [hlen, decide_true] at hx
              have hfit : Fit P f := fun as w => by
                have h6 : ¬ fn.name = "runtime.NumGoroutine" := by simpa using h8
                simp [callFunc, hfn, h6, hcb]
              -- the closure
              obtain ⟨xs, hev, hall⟩ : ∃ xs : List Value, a.eval g = .func (.func f) #[] xs.toArray ∧ All2 (fun v u => RV (Mut M0 μ h.get) w μ (shapes h.get) v u) caps xs := by
                have hcell := S.cell hg hcx
                unfold iterVs at hcaps
                split at hcaps
                · rename_i g' first cap
                  split at hcaps
                  · rename_i _ hgf
                    have := Nat.eq_of_beq_eq_true hgf
                    subst this
                    cases hcaps
                    generalize a.eval g = u at hcell
                    cases hcell with
                    | fn _ _ _ us vs hl hf' hc' =>
                      refine ⟨(List.range cap.length).map vs, by simp, All2.of_get (by simp) fun j v u hv hu => ?_⟩
                      rw [List.getElem?_map] at hv hu
                      cases hcj : cap[j]? with
                      | none => simp [hcj] at hv
                      | some x =>
                        have hlt := (List.getElem?_eq_some_iff.1 hcj).1
                        rw [List.getElem?_range hlt] at hu
                        simp [hcj] at hv hu
                        subst hv hu
                        exact RV_cell.2 (hc' j x hcj)
                  · cases hcaps
                · rename_i g' first cap
                  split at hcaps
                  · rename_i _ hgf
                    have := Nat.eq_of_beq_eq_true hgf
                    subst this
                    cases hcaps
                    obtain ⟨fs, cs, h9, h10, h11⟩ := hcell
                    exact ⟨cs, by rw [h11]; simp, ofCaps_all h10⟩
                  · cases hcaps
                · cases hcaps
              refine wpIn_rangeFunc ?_
              intro fnid _
              -- the marks and the record
              obtain ⟨wD, hwD⟩ : ∃ wD, wD = w.alloc (.deferred (some [])) := ⟨_, rfl⟩
              have hbD : Below w.heap.size w wD := by rw [hwD]; exact below_alloc w _
              have hszD : wD.heap.size = w.heap.size + 1 := by rw [hwD]; exact World.size_alloc _ _
              have hD0 : wD.heap[w.heap.size]? = some (.deferred (some [])) := by rw [hwD]; exact World.alloc_heap_new w _
              have hdefs : DefOk w0.heap.size ({ target := .collected w.heap.size, args := #[] } :: a.defers) wD := by
                refine ⟨⟨w.heap.size, rfl, S.size, hD0, fun d' hd' he => ?_⟩, (S.below hbD).defers⟩
                have key : ∀ ds : List Deferred, DefOk w0.heap.size ds w → ({ target := .collected w.heap.size, args := #[] } : Deferred) ∉ ds := by
                  intro ds
                  induction ds with
                  | nil => simp
                  | cons x r ih =>
                    rintro ⟨⟨D, h9, _, h10, _⟩, h11⟩ hm
                    rcases List.mem_cons.1 hm with hm | hm
                    · rw [h9] at hm
                      have : w.heap.size = D := by injection hm with hm _; injection hm
                      have := (Array.getElem?_eq_some_iff.1 h10).1
                      omega
                    · exact ih h11 hm
                exact key _ S.defers (he ▸ hd')
              obtain ⟨a', ha'⟩ : ∃ a' : Act, a' = { a with defers := { target := .collected w.heap.size, args := #[] } :: a.defers } := ⟨_, rfl⟩
              have hat : a'.tmps = a.tmps := by rw [ha']
              have hS1 : Sim w0 B0 M0 N μ e.get h.get a' wD := (S.below hbD).reframe (by rw [hat]; exact S.tmps) (by rw [ha']; exact hdefs) (fun t v hv => by rw [hat]; exact (S.below hbD).env t v hv)
              have keep1 : ∀ v u, RV (Mut M0 μ h.get) w μ (shapes h.get) v u → RV (Mut M0 μ h.get) wD μ (shapes h.get) v u := fun v u hv => hv.keep (Leaves.of_below hbD) (fun _ _ h => h) (Agree.refl _ _)
              obtain ⟨hS2, hf2, keep2⟩ := hS1.save hf
              obtain ⟨ρ, hρ⟩ : ∃ ρ : Loop, ρ = { state := .ready, pending := none, fn := fnid, tmps := a.tmps, params := ps, assign := ma, body := mb, defers := w.heap.size } := ⟨_, rfl⟩
              obtain ⟨hS3, hf3, keep3⟩ := hS2.newLp hf2 ρ .ready none
              have hw1 : wD.alloc (.loop { ρ with state := .ready, pending := none }) = (w.alloc (.deferred (some []))).alloc (.loop { state := .ready, pending := none, fn := fnid, tmps := a.tmps, params := ps, assign := ma, body := mb, defers := w.heap.size }) := by rw [hwD, hρ]
              rw [hszD] at hS3 keep3 hf3
              obtain ⟨w1, hw1'⟩ : ∃ w1, w1 = wD.alloc (.loop { ρ with state := .ready, pending := none }) := ⟨_, rfl⟩
              rw [← hw1'] at hS3 keep3
              have hl : w.heap.size + 1 = w.heap.size + 1 := rfl
              refine ⟨w.heap.size + 1, [{ target := .collected w.heap.size, args := #[] }], w1, { target := .fn (.func f) xs.toArray, args := #[.func (.yield (w.heap.size + 1)) #[] #[]] }, w1, f, #[.func (.yield (w.heap.size + 1)) #[] #[]] ++ xs.toArray, w1, ?_, ?_, fun _ _ => trivial, ?_, fun h => by simp [Fence.wide] at h, ?_⟩
              · rw [hw1', hw1]
                exact run_enterLoop_outer _ _ _ _ _
              · simp only [resolve, rangeCall, hev]
                simp [Deferred.ofValue, Act.eval]
              · exact hfit _ _
              · have hargs : (#[Value.func (.yield (w.heap.size + 1)) #[] #[]] ++ xs.toArray) = (Value.func (.yield (w.heap.size + 1)) #[] #[] :: xs).toArray := by simp
                rw [hargs]
                refine callsIn_of_wp hfn hcb trivial ?_ rfl
                have hlx : (Value.func (.yield (w.heap.size + 1)) #[] #[] :: xs).length ≤ fn.ntmps := by
                  have := hall.length
                  simp only [List.length_cons]
                  omega
                have hS4 : Sim w0 B0 M0 fn.ntmps (fun i => if i = n + 1 then Value.map (some (w.heap.size + 1)) else if i = n then Value.tuple #[] else μ i) (argEnvV 0 (.v false [.d (.yld (w.heap.size + 1) n)] :: caps)).get (h ++ [(n, Obj.saved a' e)] ++ [(n + 1, Obj.lp (w.heap.size + 1) ρ .ready none)]).get { tmps := (Value.func (.yield (w.heap.size + 1)) #[] #[] :: xs).toArray ++ Array.replicate (fn.ntmps - (Value.func (.yield (w.heap.size + 1)) #[] #[] :: xs).toArray.size) undef, defers := [] } w1 := by
                  refine hS3.reframe (by simp at hlx ⊢; omega) trivial fun t v hv => ?_
                  rw [argEnvV_get] at hv
                  simp only [Nat.zero_le, if_true, Nat.sub_zero] at hv
                  have hall' : All2 (fun v u => RV (Mut M0 (fun i => if i = n + 1 then Value.map (some (w.heap.size + 1)) else if i = n then Value.tuple #[] else μ i) (h ++ [(n, Obj.saved a' e)] ++ [(n + 1, Obj.lp (w.heap.size + 1) ρ .ready none)]).get) w1 (fun i => if i = n + 1 then Value.map (some (w.heap.size + 1)) else if i = n then Value.tuple #[] else μ i) (shapes (h ++ [(n, Obj.saved a' e)] ++ [(n + 1, Obj.lp (w.heap.size + 1) ρ .ready none)]).get) v u) (.v false [.d (.yld (w.heap.size + 1) n)] :: caps) (Value.func (.yield (w.heap.size + 1)) #[] #[] :: xs) :=
                    ⟨RV_cell.2 (RD.yld _ _), hall.mono fun v u hv => keep3 v u (keep2 v u (keep1 v u hv))⟩
                  obtain ⟨u, hu, hru⟩ := hall'.get t v hv
                  refine ⟨u, ?_, hru⟩
                  have hlt := (List.getElem?_eq_some_iff.1 hu).1
                  rw [Array.getElem?_append_left (by simpa using hlt)]
                  simpa using hu
                have hgo := hx (w.heap.size + 1) a' ρ (by rw [hat, hρ])
                have hcat : h ++ [(n, Obj.saved a' e), (n + 1, Obj.lp (w.heap.size + 1) ρ .ready none)] = h ++ [(n, Obj.saved a' e)] ++ [(n + 1, Obj.lp (w.heap.size + 1) ρ .ready none)] := by simp
                rw [hcat] at hgo
                refine ih Fence.wide (.inl rfl) false (fun _ => rfl) (some (ps, ma, mb, N)) (some ρ) (fun ρ' hρ' => ?_) fn.ntmps (d - 1) cb h5 _ _ _ _ _ w1 _ _ hS4 hf3 hgo ?_
                · cases hρ'
                  exact ⟨N, by rw [hρ], by rw [hρ]; exact S.tmps⟩
                · have hdw1 : DefOk w0.heap.size a'.defers w1 := by
                    refine hS1.defers.step fun D hD => ?_
                    rw [hw1']
                    exact (Below.heap_alloc wD _ D (Array.getElem?_eq_some_iff.1 hD).1).trans hD
                  have fin : ∀ a2 w2, AtL w0 B0 M0 fn.ntmps (fun _ h' n' => match h'.get n with
                      | some (.saved tm' e1) => tm' = a' ∧ match h'.get (n + 1) with
                        | some (.lp l' ρ' st p) => l' = w.heap.size + 1 ∧ ρ' = ρ ∧ match st with
                          | .busy => False
                          | _ => match p with
                            | none => K .normal (Env.keep e1 live) ((h'.del n).del (n + 1)) n'
                            | some c => match c with
                              | .ret => K .ret e1 ((h'.del n).del (n + 1)) n'
                              | .exit i => K (.exit i) e1 ((h'.del n).del (n + 1)) n'
                              | _ => False
                        | _ => False
                      | _ => False) a2 w2 → rangePost Fence.wide d P (w.heap.size + 1) Q a' (.returned (.tuple #[])) w2 := by
                    rintro a2 w2 ⟨μ2, e2, h2, n2, S2, hf2', hk2⟩
                    split at hk2
                    · rename_i tm' e1 hn1
                      obtain ⟨htm, hk2⟩ := hk2
                      rw [htm] at hn1
                      split at hk2
                      · rename_i l' ρ' st p hn2
                        obtain ⟨hl2, hρ2, hk2⟩ := hk2
                        rw [hl2, hρ2] at hn2
                        have S5 := S2.retake (N := N) (B := 0) (by rw [hat]; exact S.tmps) hdw1 hn1
                        obtain ⟨hrec, S6⟩ := S5.setLp (st' := .exhausted) (p' := p) hn2
                        have hsn : shapes (fset h2.get (n + 1) (.lp (w.heap.size + 1) ρ .exhausted p)) n = some .kept := by
                          simp [shapes, fset, hn1, Obj.sh]
                        obtain ⟨S7, _⟩ := S6.dropKept hsn
                        have hsn2 : shapes (fgone (fset h2.get (n + 1) (.lp (w.heap.size + 1) ρ .exhausted p)) n) (n + 1) = some .kept := by
                          simp [shapes, fgone, fset, Obj.sh]
                        obtain ⟨S8, _⟩ := S7.dropKept hsn2
                        have heq : fgone (fgone (fset h2.get (n + 1) (.lp (w.heap.size + 1) ρ .exhausted p)) n) (n + 1) = ((h2.del n).del (n + 1)).get := by
                          rw [Heap.get_del, Heap.get_del]
                          funext j
                          simp only [fgone, fset]
                          split
                          · rfl
                          · rfl
                        rw [heq] at S8
                        have hfr : Fresh ((h2.del n).del (n + 1)).get n2 := by
                          intro i hi
                          rw [Heap.get_del, Heap.get_del]
                          simp only [fgone]
                          split
                          · rfl
                          · split
                            · rfl
                            · exact hf2' i hi
                        have hst : st ≠ .busy := by rintro rfl; exact hk2
                        have hend := run_endLoop (P := P) hrec hst
                        refine ⟨p, _, hend, ?_⟩
                        have hno : noIter (.iter x f k body live) = true → a'.defers = a.defers := fun hh => by simp [noIter] at hh
                        cases st with
                        | busy => exact hk2.elim
                        | _ =>
                          cases p with
                          | none =>
                            refine hQ .normal _ _ ⟨_, _, _, n2, S8.less fun t v hv => ?_, hfr, hk2⟩ hno
                            rw [Env.get_keep] at hv
                            unfold fkeep at hv
                            split at hv
                            · exact hv
                            · cases hv
                          | some c =>
                            cases c <;> first | exact hk2.elim | skip
                            case exit => exact wpIn_exit (hQ (.exit _) _ _ ⟨_, _, _, n2, S8, hfr, hk2⟩ hno)
                            case ret => exact wpIn_ret (hQ .ret _ _ ⟨_, _, _, n2, S8, hfr, hk2⟩ hno)
                      · exact hk2.elim
                    · exact hk2.elim
                  have hres : ∀ (a2 : Act) (w2 : World), (results fn a2.tmps).run P w2 = .ok (.tuple #[]) w2 := by
                    intro a2 w2
                    have : fn.results = #[] := by simpa using h6
                    simp [results, this]
                  rintro o a2 w2 hk2 hds2
                  rw [ha'] at fin
                  cases o with
                  | normal => exact ⟨hds2 hni, _, hres a2 w2, fin a2 w2 (by rw [← ha']; exact hk2)⟩
                  | ret => exact ⟨hds2 hni, _, hres a2 w2, fin a2 w2 (by rw [← ha']; exact hk2)⟩
                  | exit i => obtain ⟨_, _, _, _, _, _, hk2⟩ := hk2; exact hk2.elim
            · simp only [hlen, decide_false] at hx
          · exact hx.elim
        · exact hx.elim
      · cases h5
    · cases h1
  | yld pre dst y args params assign body post live iha ihb =>
    intro F hF r hr yc Y hY N d c hc e h n μ a w K Q S hf hx hQ
    cases c <;> simp only [chkCode, Bool.false_eq_true] at hc
    rename_i rid ops draw
    simp only [Bool.and_eq_true, Bool.not_eq_true'] at hc
    obtain ⟨⟨⟨⟨h1, rfl⟩, rfl⟩, h2⟩, hnd⟩ := hc
    have hFw := hr rfl
    subst hFw
    obtain ⟨h3, h4⟩ := chkOps_get h2
    split at h1
    · rename_i ps ma mb N0
      simp only [Bool.and_eq_true, beq_iff_eq] at h1
      obtain ⟨⟨⟨⟨h5, h6⟩, h7⟩, h8⟩, h9⟩ := h1
      simp only [ex] at hx
      refine wpIn_region ?_
      have hsz : ops.size = pre.length + (1 + post.length) := by simp at h3; omega
      have hrange : List.range ops.size = List.range' 0 pre.length ++ (pre.length :: List.range' (pre.length + 1) post.length) := by
        rw [hsz, List.range_eq_range', Nat.add_comm 1 post.length, ← List.range'_append (step := 1), List.range'_succ]
        simp
      rw [hrange]
      have hlast : ∃ mo, ops[pre.length]? = some mo ∧ chkOper P N ops mo ⟨dst, .callVH y args, none⟩ = true := by simpa using h4 pre.length ⟨dst, .callVH y args, none⟩ (by simp)
      have hpost : ∀ j o, post[j]? = some o → ∃ mo, ops[pre.length + 1 + j]? = some mo ∧ chkOper P N ops mo o = true := fun j o hj => by simpa using h4 (pre.length + 1 + j) o (by rw [List.getElem?_append_right (by omega), show pre.length + 1 + j - pre.length = j + 1 by omega]; simpa using hj)
      have last : ∀ (l : List Oper) (k : Nat) (e : Env) (h : Heap) (n : Nat) (μ : Nat → Value) (a2 : Act) (w : World), (∀ j o, l[j]? = some o → ∃ mo, ops[k + j]? = some mo ∧ chkOper P N ops mo o = true) → Sim w0 B0 M0 N μ e.get h.get a2 w → a2.defers = a.defers → Fresh h.get n →
          exOps prims G l e h n (fun e h n => K .normal (e.keep live) h n) → wpOpsIn Fence.wide d P ops Q (List.range' k l.length) a2 w := by
        intro l k e h n μ a2 w hl S hds hf hx
        have := seq_sound_in (mops := ops) (d := d) (Q := Q) hF hG (ndef hnd) a.defers [] (fun a3 w3 h3 hds3 => by
          simp only [wpOpsIn]
          obtain ⟨μ, e, h, n, S, hf, hk⟩ := h3
          refine hQ .normal a3 w3 ⟨μ, e.keep live, h, n, S.less fun t v hv => ?_, hf, hk⟩ fun _ => hds3
          rw [Env.get_keep] at hv
          unfold fkeep at hv
          split at hv
          · exact hv
          · cases hv) l k e h n μ a2 w hl S hds hf hx
        simpa using this
      obtain ⟨mo, hmo, hck⟩ := hlast
      refine seq_sound_in (mops := ops) hF hG (ndef hnd) a.defers _ ?_ pre 0 e h n μ a w (fun j o hj => by simpa using h4 j o (by rw [List.getElem?_append_left (List.getElem?_eq_some_iff.1 hj).1]; exact hj)) S rfl hf hx
      rintro a1 w ⟨μ, e, h, n, S, hf, hk⟩ hds
      split at hk
      · rename_i dd vs hdd hvs
        split at hk
        · rename_i l id
          split at hk
          · rename_i aL eL hsv
            split at hk
            · rename_i l0 ρ0 st0 p0 hlp
              split at hk
              · rename_i eR heR
                obtain ⟨hl0, hρ0, htm, hgo⟩ := hk
                subst hl0
                obtain ⟨N0', hyc, hN0⟩ := hY ρ0 hρ0
                cases hyc
                unfold chkOper at hck
                simp only [Bool.and_eq_true, decide_eq_true_eq] at hck
                obtain ⟨⟨⟨hd1, hd2⟩, hd3⟩, hd4⟩ := hck
                have hguard : mo.guard = none := by
                  split at hd4
                  · assumption
                  · rename_i hc' ; cases hc'
                  · cases hd4
                simp only [chkOp] at hd3
                split at hd3
                · rename_i y' as ts hop
                  simp only [Bool.and_eq_true] at hd3
                  obtain ⟨hyy, hargs⟩ := hd3
                  have hyv : a1.eval y' = .func (.yield l0) #[] #[] := by
                    have h10 := S.dat hyy hdd
                    generalize a1.eval y' = u at h10
                    cases h10
                    rfl
                  have hall := vals_all S hargs hvs
                  obtain ⟨hlpm, hrec⟩ := S.heap (id + 1) _ hlp
                  rw [wpOpsIn_cons]
                  unfold wpOpIn
                  rw [hmo]
                  dsimp only
                  have hw : Region.wanted mo (yielded ops a1.tmps) = true := by simp [Region.wanted, hguard]
                  rw [if_pos hw]
                  refine ⟨fun f _ => hF.fn f, ?_⟩
                  rw [Oper.semAt_eq _ _ _ (fun c hc => by rw [hop] at hc; cases hc)]
                  have hps : ρ0.params.toList = params := h5
                  obtain ⟨_, _, hsv2⟩ := S.heap id _ hsv
                  have hpb : ∀ p ∈ params, p < aL.tmps.size := by
                    intro p hp
                    rw [htm, hN0]
                    exact of_decide_eq_true (List.all_eq_true.1 h8 p hp)
                  obtain ⟨hlen, hsize, hreg⟩ := putVs_sound heR hall hpb hsv2
                  have hxs : (as.map a1.eval).toList = as.toList.map a1.eval := by simp
                  have hrun : (execOp a1.eval mo).run P w = .ok (.round l0 ρ0.fn ((ρ0.params.zip (as.map a1.eval)).foldl (fun tmps (t, a) => tmps.setIfInBounds t a) ρ0.tmps) ρ0.assign ρ0.body) w := by
                    have hy := run_yield (P := P) (args := as.map a1.eval) hrec (by
                      have : ρ0.params.size = params.length := by rw [← hps]; simp
                      show (as.map a1.eval).size = ρ0.params.size
                      rw [this, hlen]; simp)
                    simp [execOp, hop, resolve, hyv, Deferred.ofValue, invoke, hy]
                  rw [hrun, Oper.uponIn_round]
                  refine ⟨fun h => by simp [Fence.wide] at h, ?_⟩
                  refine roundIn_of_wpIn trivial ?_
                  obtain ⟨S1, hf1, keep⟩ := S.save hf
                  obtain ⟨tr, htr⟩ : ∃ tr, tr = (ρ0.params.zip (as.map a1.eval)).foldl (fun tmps (t, a) => tmps.setIfInBounds t a) ρ0.tmps := ⟨_, rfl⟩
                  rw [← htr]
                  rw [foldl_zip, hxs, hps, ← htm] at htr
                  have htrs : tr.size = N0 := by rw [htr, hsize, htm, hN0]
                  have S2 : Sim w0 B0 M0 N0 _ eR.get (h ++ [(n, Obj.saved a1 e)]).get { tmps := tr, defers := [] } w := S1.reframe htrs trivial fun t v hv => by
                    obtain ⟨u, h10, h11⟩ := hreg t v hv
                    exact ⟨u, by rw [htr]; exact h10, keep v u h11⟩
                  have hopn : Opn (Fence.wide.inRound l0) := .inr ⟨l0, rfl⟩
                  have hnlt : id + 1 < n := by
                    rcases Nat.lt_or_ge (id + 1) n with h' | h'
                    · exact h'
                    · rw [hf _ h'] at hlp; cases hlp
                  have ha1 := S.tmps
                  have ha2 := S.defers
                  refine iha (Fence.wide.inRound l0) hopn true (fun h => by cases h) none none nY N0 (d - 1) ρ0.assign h6 eR _ (n + 1) _ _ w _ _ S2 hf1 (hgo a1) ?_
                  rintro o a2 w2 ⟨μ2, e2, h2', n2, S3, hf3, hk2⟩ _
                  cases o with
                  | exit i => exact hk2.elim
                  | ret => exact hk2.elim
                  | normal =>
                    dsimp only at hk2
                    split at hk2
                    · rename_i l1 ρ1 st1 p1 hlp1
                      split at hk2
                      · obtain ⟨hl1, hρ1, hk3⟩ := hk2
                        subst hl1 hρ1
                        obtain ⟨hrec1, S4⟩ := S3.setLp (st' := .busy) (p' := p1) hlp1
                        refine ⟨_, run_beginRound hrec1 rfl, ?_⟩
                        rw [← Heap.get_setF hlp1] at S4
                        have hf4 : Fresh (h2'.set (id + 1) (.lp l1 ρ1 .busy p1)).get n2 := by
                          intro i hi
                          rw [Heap.get_setF hlp1]
                          unfold fset
                          split
                          · rename_i he
                            subst he
                            rw [hf3 _ hi] at hlp1; cases hlp1
                          · exact hf3 i hi
                        refine ihb (Fence.wide.inRound l1) hopn true (fun h => by cases h) none none nY N0 (d - 1) ρ1.body h7 e2 _ n2 _ a2 _ _ _ S4 hf4 hk3 ?_
                        rintro o a3 w3 ⟨μ3, e3, h3', n3, S5, hf5, hk4⟩ _
                        split at hk4
                        · rename_i tm' eI hn1
                          obtain ⟨htm', hk4⟩ := hk4
                          rw [htm'] at hn1
                          split at hk4
                          · rename_i l2 ρ2 st2 p2 hn2
                            obtain ⟨hl2, hρ2, hk4⟩ := hk4
                            rw [hl2, hρ2] at hn2
                            have S6 := S5.retake (N := N) (B := 0) ha1 ha2 hn1
                            obtain ⟨S7, _⟩ := S6.dropKept (n := n) (by simp [shapes, hn1, Obj.sh])
                            have hlp3 : fgone h3'.get n (id + 1) = some (.lp l1 ρ1 st2 p2) := by
                              unfold fgone
                              rw [if_neg (by omega)]
                              exact hn2
                            have fin : ∀ (st' : LoopState) (jump : Option Go.Code), (st' = if jump.isNone then .ready else .done) → ∀ b : Bool, b = jump.isNone → exOps prims G post (Env.puto eI dst (.v false [.d (.bool b)])) ((h3'.del n).set (id + 1) (.lp l2 ρ2 st' jump)) n3 (fun e h n => K .normal (e.keep live) h n) →
                                ∃ v w', (Instr.endRound l1 jump).run P w3 = .ok v w' ∧ wpOpsIn Fence.wide d P ops Q (List.range' (pre.length + 1) post.length) (a1.put mo.dst v) w' := by
                              intro st' jump hst b hb hkk
                              obtain ⟨hrec2, S8⟩ := S7.setLp (st' := st') (p' := jump) hlp3
                              refine ⟨_, _, run_endRound jump hrec2, ?_⟩
                              have hdd : dstOk N mo.dst = true := by rw [hd1]; exact hd2
                              have S9 := S8.put hdd (v := .v false [.d (.bool b)]) (u := .bool jump.isNone) (RV_cell.2 (by rw [hb]; exact RD.bool _))
                              rw [hd1, ← Env.get_puto] at S9
                              rw [hd1]
                              have hgd : (h3'.del n).get (id + 1) = some (.lp l1 ρ1 st2 p2) := by rw [Heap.get_del]; exact hlp3
                              have hset : fset (fgone h3'.get n) (id + 1) (.lp l1 ρ1 st' jump) = ((h3'.del n).set (id + 1) (.lp l2 ρ2 st' jump)).get := by
                                rw [Heap.get_setF hgd, Heap.get_del, hl2, hρ2]
                              rw [hset] at S9
                              rw [hst] at S9
                              have hkk' := hkk
                              rw [hst] at hkk'
                              refine last post (pre.length + 1) _ _ n3 μ3 _ _ hpost S9 ((put_defers _ _ _).trans hds) ?_ hkk'
                              intro i hi
                              rw [← hst, ← hset]
                              unfold fset
                              split
                              · rename_i he
                                subst he
                                rw [hf5 _ hi] at hn2; cases hn2
                              · unfold fgone
                                split
                                · rfl
                                · exact hf5 i hi
                            cases o with
                            | normal => exact fin .ready none rfl true rfl hk4
                            | ret => exact fin .done (some .ret) rfl false rfl hk4
                            | exit i => exact fin .done (some (.exit i)) rfl false rfl hk4
                          · exact hk4.elim
                        · exact hk4.elim
                      · exact hk2.elim
                    · exact hk2.elim
                · cases hd3
              · exact hk.elim
            · exact hk.elim
          · exact hk.elim
        · exact hk.elim
      · exact hk.elim
    · cases h1
end

theorem argEnv_get : ∀ (args : List DV) (k t : Nat), (argEnv k args).get t = if k ≤ t then (args[t - k]?).map DV.v else none
  | [], k, t => by simp [argEnv, Env.get]
  | x :: r, k, t => by
    have ih := argEnv_get r (k + 1) t
    simp only [argEnv, Env.get, nbeq, ih]
    by_cases h : k = t
    · subst h; simp
    · simp only [h, decide_false]
      by_cases h2 : k + 1 ≤ t
      · rw [if_pos h2, if_pos (by omega), show t - k = (t - (k + 1)) + 1 by omega]
        simp
      · rw [if_neg h2, if_neg (by omega)]

/-- The function and its text in the words of VI. -/
def chkFn (P : Program) (f : Nat) (k : Nat) (v : Code) (rs : List Res) : Bool := match P.funcs[f]? with
  | some fn => (match fn.body with
    | some c => chkCode P none false fn.ntmps c v
    | none => false) && ressOk P fn.results.toList rs && decide (k ≤ fn.ntmps) && !(fn.name == "runtime.NumGoroutine")
  | none => false

/-- No slots are put by. -/
def Heap.noSaved : Heap → Bool
  | [] => true
  | (_, .saved _ _) :: _ => false
  | _ :: r => Heap.noSaved r
theorem Heap.noSaved_get : ∀ {h : Heap}, h.noSaved = true → ∀ j tm se, h.get j ≠ some (.saved tm se)
  | [], _, j, tm, se => by simp [Heap.get]
  | (i, o) :: r, hn, j, tm, se => by
    simp only [Heap.get, nbeq]
    by_cases hij : i = j
    · simp only [hij, decide_true, ne_eq, Option.some.injEq]
      rintro rfl
      simp [Heap.noSaved] at hn
    · simp only [hij, decide_false]
      refine Heap.noSaved_get (h := r) ?_ j tm se
      cases o <;> first | exact hn | (simp [Heap.noSaved] at hn)

section
variable {P : Program} {w0 : World} {M : Nat → Prop} {N : Nat} {μ : Nat → Value} {e : EnvF} {h : HeapF}
theorem leave_sound {fn : Func} {rs : List Res} {vs : List (Bool × List C)} {ds : List DV} {d : Nat} (ho : ressOk P fn.results.toList rs = true) (hvs : resL prims e h rs = some vs) (hds : freezeP h vs = some ds) :
    ∀ (l : List Deferred) (a : Act) (w : World), a.defers = l → (l = [] ∨ ∀ j tm se, h j ≠ some (.saved tm se)) → Sim w0 (fun _ => False) M N μ e h a w →
      LeavesInM Fence.wide d P fn a.tmps (fun e w' => ∃ v, e = .returned v ∧ RR M w' (resR ds) v ∧ Below w0.heap.size w0 w') l .returning w
  | [], a, w, hl, hns, S => by
    obtain ⟨us, h5, h6⟩ := ress_sound S ho hvs
    have h7 := freezeP_sound S hds h6
    have hbel : Below w0.heap.size w0 w := ⟨S.os, S.tape, S.output, S.size, fun k hk => S.frame k hk (fun h => h)⟩
    have hrun : (results fn a.tmps).run P w = .ok (if h : us.toArray.size = 1 then us.toArray[0] else .tuple us.toArray) w := by
      rw [results_eq, ← Array.toArray_toList (xs := fn.results), List.mapM_toArray]
      simp [h5]
    refine ⟨_, hrun, _, rfl, ?_, hbel⟩
    match ds, us, h7 with
    | [], [], _ => exact ⟨[], rfl, trivial⟩
    | [x], [u], h7 => exact h7.1
    | x :: y :: r, [u], h7 => exact h7.2.elim
    | [x], u :: u' :: r, h7 => exact h7.2.elim
    | x :: y :: r, u :: u' :: r', h7 => exact ⟨u :: u' :: r', by simp, h7⟩
  | x :: l, a, w, hl, hns, S => by
    have hns2 := hns.resolve_left (by simp)
    obtain ⟨D, rfl, hD, S'⟩ := S.unmark hl hns2
    exact ⟨by simp, .inl ⟨D, _, rfl, run_takeDeferred hD, leave_sound ho hvs hds l { a with defers := l } _ rfl (.inr hns2) S'⟩⟩
end

/-- **A function's contract,** a range over a function in it or not. -/
theorem good_of_ex' {P : Program} {G : Nat → List DV → R → Prop} (hm : P.follows .mixedOrders = true) (hG : ∀ f ds r, G f ds r → Fit P f ∧ Good P f ds r ∧ ∀ sz es args es', ds = (false, []) :: (false, [.row sz es]) :: args → r = .one (false, [.row sz es']) → GoodW P f sz es args es') {f : Nat} {v : Code} {rs : List Res} {args : List DV} {r : R} (hc : chkFn P f args.length v rs = true) {K : Out → Cont}
    (hK : ∀ o e h n, K o e h n → answer prims rs (fun q => q = r) o e h n ∧ (noIter v = true ∨ h.noSaved = true))
    (hx : ex prims G none v (argEnv 0 args) [] 0 K) : Fit P f ∧ Good P f args r := by
  unfold chkFn at hc
  split at hc
  · rename_i fn hfn
    simp only [Bool.and_eq_true, decide_eq_true_eq, Bool.not_eq_true'] at hc
    obtain ⟨⟨⟨h1, h2⟩, h3⟩, h4⟩ := hc
    split at h1
    · rename_i c hb
      refine ⟨fun as w => ?_, fun M w as hV hM hall => ?_⟩
      · have h5 : (fn.name == "runtime.NumGoroutine") = false := h4
        have h6 : ¬ fn.name = "runtime.NumGoroutine" := by simpa using h5
        simp [callFunc, hfn, h6, hb]
      · have hlen := hall.length
        refine (callsIn_wide (n := 0)).1 (callsIn_of_wp_marks hfn hb trivial ?_ rfl)
        have S : Sim w (fun _ => False) M fn.ntmps (fun _ => undef) (argEnv 0 args).get (fun _ => none) { tmps := as.toArray ++ Array.replicate (fn.ntmps - as.toArray.size) undef, defers := [] } w := by
          refine ⟨by simp; omega, trivial, fun t x hx => ?_, fun _ _ h => (by cases h), fun _ _ _ _ _ h => (by cases h), fun _ _ _ h => (by cases h), hM, rfl, rfl, rfl, Nat.le_refl _, fun _ _ _ => rfl⟩
          rw [argEnv_get] at hx
          simp only [Nat.zero_le, if_true, Nat.sub_zero, Option.map_eq_some_iff] at hx
          obtain ⟨d, hd, rfl⟩ := hx
          obtain ⟨u, hu, hr⟩ := hall.get t d hd
          refine ⟨u, ?_, RDV.rv.2 (hr.step (Leaves.refl _ _) fun k _ hk => ?_)⟩
          · have hlt := (List.getElem?_eq_some_iff.1 hu).1
            rw [Array.getElem?_append_left (by simpa using hlt)]
            simpa using hu
          · rcases hk with hk | ⟨id, o, h, _⟩
            · exact hk
            · cases h
        refine ex_sound hm (fun f ds r h => ⟨(hG f ds r h).1, (hG f ds r h).2.1.at hV, fun sz es args es' h1 h2 => ((hG f ds r h).2.2 sz es args es' h1 h2).at hV⟩) v Fence.wide (.inl rfl) false (fun _ => rfl) none none (fun ρ h => by cases h) _ 0 c h1 (argEnv 0 args) [] 0 (fun _ => undef) _ w K _ S (fun _ _ => rfl) hx ?_
        rintro o a w' ⟨μ, e, h, n, S, _, hk⟩ hds
        obtain ⟨hk, hno⟩ := hK o e h n hk
        have fin : ∀ (hk : match resL prims e.get h.get rs with
            | some vs => match freezeP h.get vs with
              | some ds => resR ds = r
              | none => False
            | none => False), LeavesInM Fence.wide 0 P fn a.tmps (fun e w' => ∃ v, e = .returned v ∧ RR M w' r v ∧ Below w.heap.size w w') a.defers .returning w' := by
          intro hk
          split at hk
          · rename_i vs hvs
            split at hk
            · rename_i ds hds'
              subst hk
              refine leave_sound h2 hvs hds' a.defers a w' rfl ?_ S
              rcases hno with hno | hno
              · exact .inl (hds hno)
              · exact .inr (Heap.noSaved_get hno)
            · exact hk.elim
          · exact hk.elim
        cases o with
        | normal => exact fin hk
        | ret => exact fin hk
        | exit i => exact hk.elim
    · cases h1
  · cases hc
/-- **A function's contract.** -/
theorem good_of_ex {P : Program} {G : Nat → List DV → R → Prop} (hm : P.follows .mixedOrders = true) (hG : ∀ f ds r, G f ds r → Fit P f ∧ Good P f ds r ∧ ∀ sz es args es', ds = (false, []) :: (false, [.row sz es]) :: args → r = .one (false, [.row sz es']) → GoodW P f sz es args es') {f : Nat} {v : Code} {rs : List Res} {args : List DV} {r : R} (hc : chkFn P f args.length v rs = true) (hn : noIter v = true)
    (hx : ex prims G none v (argEnv 0 args) [] 0 (answer prims rs (fun q => q = r))) : Fit P f ∧ Good P f args r :=
  good_of_ex' hm hG hc (fun _ _ _ _ h => ⟨h, .inl hn⟩) hx
end Go.Vi
