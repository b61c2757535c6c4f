/-
  The framework: operations.
-/
import Derived.Test.YtkjnedjjdmfpbaaGreatDoorA1
import Derived.Laws.BytesString
import Derived.Laws.OwnMore
import Derived.Laws.Strings
set_option linter.unusedVariables false
set_option linter.unusedSimpArgs false
set_option linter.unusedSectionVars false
namespace Go.Vi
open Go.RowKit
set_option linter.unusedVariables false
set_option linter.unusedSimpArgs false

/-- Field f of the struct type t lies at off, and has k cells. -/
def fieldIs (P : Program) (t : TypeId) (f off k : Nat) : Bool := match P.underlying t with
  | some (.struct fs) => match fs[f]? with
    | some q => q.offset == off && sizeIs P q.type k
    | none => false
  | _ => false
def fieldAgg (P : Program) (t : TypeId) (f : Nat) (b : Bool) : Bool := match P.underlying t with
  | some (.struct fs) => match fs[f]? with
    | some q => aggIs P q.type b
    | none => false
  | _ => false
def sliceIs (P : Program) (t e sz : Nat) : Bool := match P.underlying t with
  | some (.slice q) => q == e && sizeIs P q sz
  | _ => false
def arrayIs (P : Program) (t len sz : Nat) (agg : Bool) : Bool := match P.underlying t with
  | some (.array n q) => n == len && sizeIs P q sz && aggIs P q agg
  | _ => false

section
variable {P : Program} {w0 : World} {B0 M0 : Nat → Prop} {N : Nat} {μ : Nat → Value} {e : EnvF} {h : HeapF} {a : Act} {w : World} {n : Nat} {v : V} {objs : List Obj}

theorem fieldIs_open {t : TypeId} {f off k : Nat} (hf : fieldIs P t f off k = true) : ∃ fs q, P.underlying t = some (.struct fs) ∧ fs[f]? = some q ∧ q.offset = off ∧ sizeIs P q.type k = true := by
  unfold fieldIs at hf
  split at hf
  · rename_i fs hu
    split at hf
    · rename_i q hq
      simp only [Bool.and_eq_true, beq_iff_eq] at hf
      exact ⟨fs, q, hu, hq, hf.1, hf.2⟩
    · cases hf
  · cases hf
theorem fieldAgg_open {t : TypeId} {f : Nat} {b : Bool} {fs : Array Field} {q : Field} (hf : fieldAgg P t f b = true) (hu : P.underlying t = some (.struct fs)) (hq : fs[f]? = some q) : aggIs P q.type b = true := by
  unfold fieldAgg at hf
  rw [hu] at hf
  simp only [hq] at hf
  exact hf
theorem sliceIs_open {t e sz : Nat} (hs : sliceIs P t e sz = true) : P.underlying t = some (.slice e) ∧ sizeIs P e sz = true := by
  unfold sliceIs at hs
  split at hs
  · rename_i q hu
    simp only [Bool.and_eq_true, beq_iff_eq] at hs
    obtain ⟨rfl, h2⟩ := hs
    exact ⟨hu, h2⟩
  · cases hs
theorem arrayIs_open {t len sz : Nat} {agg : Bool} (hs : arrayIs P t len sz agg = true) : ∃ q, P.underlying t = some (.array len q) ∧ sizeIs P q sz = true ∧ aggIs P q agg = true := by
  unfold arrayIs at hs
  split at hs
  · rename_i m q hu
    simp only [Bool.and_eq_true, beq_iff_eq] at hs
    obtain ⟨⟨rfl, h2⟩, h3⟩ := hs
    exact ⟨q, hu, h2, h3⟩
  · cases hs

theorem RC.ptr {M : Nat → Prop} {s : Nat → Option Sh} {c : C} {u : Value} (off : Nat) :
    (∀ cs i, c = .d (.ro cs i) → RC M w μ s c u → ∃ ad, u = .pointer (some ad) ∧ RD M w (.ro cs (i + off)) (.pointer (some (ad.add off)))) ∧
    (∀ id o, c = .loc id o → RC M w μ s c u → ∃ ad, u = .pointer (some ad) ∧ RC M w μ s (.loc id (o + off)) (.pointer (some (ad.add off)))) ∧
    (∀ id i o, c = .el id i o → RC M w μ s c u → ∃ ad, u = .pointer (some ad) ∧ RC M w μ s (.el id i (o + off)) (.pointer (some (ad.add off)))) := by
  have hadd : ∀ g q, (⟨g, q, none⟩ : Addr).add off = ⟨g, q + off, none⟩ := fun g q => by unfold Addr.add; split <;> simp_all
  refine ⟨?_, ?_, ?_⟩
  · rintro cs i rfl hc
    cases hc with
    | ro _ _ ad us hb hm hr hd =>
      refine ⟨_, rfl, ?_⟩
      rw [add_add]
      exact .ro _ _ _ us hb hm hr hd
  · rintro id o rfl ⟨h1, g, h2, rfl⟩
    exact ⟨_, rfl, h1, g, h2, by rw [hadd]⟩
  · rintro id i o rfl ⟨sz, len, g, cap, h1, h2, h3, h4, rfl⟩
    exact ⟨_, rfl, sz, len, g, cap, h1, h2, h3, h4, by rw [hadd, Nat.add_assoc]⟩

theorem fieldAddr_sound (S : Sim w0 B0 M0 N μ e h a w) {o : Go.Oper} {t : TypeId} {f off k : Nat} {x : Operand} {x' : Arg} (ho : o.op = .fieldAddr t x f) (hf : fieldIs P t f off k = true) (hk : k ≠ 0) (h2 : argOk x x' = true)
    (hx : opF prims e h n (.fieldAddr off x') = some (v, objs)) : Comes1 P w0 B0 M0 N μ e h a w o n v objs := by
  obtain ⟨fs, q, hu, hq, rfl, hs⟩ := fieldIs_open hf
  have hrun : ∀ ad, a.eval x = .pointer (some ad) → (execOp a.eval o).run P w = .ok (.value (.pointer (some (ad.add q.offset)))) w := by
    intro ad had
    simp [execOp, ho, Instr.fieldAt, run_underlying hu, hq, had, Instr.sureAddr, fieldPlace, sizeIs_run hs, hk]
  simp only [opF] at hx
  split at hx
  · rename_i cs i hc
    cases hx
    obtain ⟨ad, hu', hd⟩ := (RC.ptr q.offset).1 cs i rfl (S.cell h2 hc)
    exact .pure S (hrun ad hu') (RV_cell.2 hd)
  · rename_i id i hc
    cases hx
    obtain ⟨ad, hu', hd⟩ := (RC.ptr q.offset).2.1 id i rfl (S.cell h2 hc)
    exact .pure S (hrun ad hu') (RV_cell.2 hd)
  · rename_i id i off hc
    cases hx
    obtain ⟨ad, hu', hd⟩ := (RC.ptr q.offset).2.2 id i off rfl (S.cell h2 hc)
    exact .pure S (hrun ad hu') (RV_cell.2 hd)
  · cases hx

/-- A part of a struct's or an array's value. -/
theorem run_part {t : TypeId} {agg : Bool} {off k : Nat} {us : List Value} (ha : aggIs P t agg = true) (hs : sizeIs P t k = true) (h1 : agg = true ∨ k = 1) (hl : ((us.drop off).take k).length = k) (w : World) :
    (part t us.toArray off).run P w = .ok (mkV agg ((us.drop off).take k)) w := by
  cases agg with
  | true =>
    simp [part, aggIs_run ha, sizeIs_run hs, mkV]
  | false =>
    obtain rfl : k = 1 := by simpa using h1
    cases hd : us.drop off with
    | nil => simp [hd] at hl
    | cons u r =>
      have : us[off]? = some u := by rw [← List.head?_drop, hd]; rfl
      simp [part, aggIs_run ha, this, hd, mkV]

theorem field_sound (S : Sim w0 B0 M0 N μ e h a w) {o : Go.Oper} {t : TypeId} {f off k : Nat} {agg : Bool} {x : Operand} {x' : Arg} (ho : o.op = .field t x f) (hf : fieldIs P t f off k = true) (ha : fieldAgg P t f agg = true) (h1 : agg = true ∨ k = 1) (h2 : argOk x x' = true)
    (hx : opF prims e h n (.field agg off k x') = some (v, objs)) : Comes1 P w0 B0 M0 N μ e h a w o n v objs := by
  obtain ⟨fs, q, hu, hq, rfl, hs⟩ := fieldIs_open hf
  have hag := fieldAgg_open ha hu hq
  simp only [opF] at hx
  split at hx
  · rename_i cs hc
    split at hx
    · rename_i r hr
      cases hx
      obtain ⟨rfl, hl⟩ := cutL_eq hr
      obtain ⟨us, hall, _, hv⟩ := S.arg h2 hc
      have hp := (hall.drop q.offset).take k
      have hl' : ((us.drop q.offset).take k).length = k := by rw [← hp.length, hl]
      refine .pure S (u := mkV agg ((us.drop q.offset).take k)) ?_ ⟨_, hp, okLen_of (by rw [hl']; exact h1), rfl⟩
      simp only [mkV] at hv
      simp [execOp, ho, Instr.field, run_underlying hu, hq, hv, asAgg, run_part hag hs h1 hl']
    · cases hx
  · cases hx

theorem conv_sound (S : Sim w0 B0 M0 N μ e h a w) {o : Go.Oper} {t t' : TypeId} {k : IntKind} {x : Operand} {x' : Arg} (ho : o.op = .convert t t' x) (ht : (P.underlying t).isSome = true) (ht' : P.underlying t' = some (.int k)) (h2 : argOk x x' = true)
    (hx : opF prims e h n (.conv k x') = some (v, objs)) : Comes1 P w0 B0 M0 N μ e h a w o n v objs := by
  simp only [opF] at hx
  split at hx
  · rename_i q p hp
    have ep := S.int h2 hp
    cases hx
    obtain ⟨d, hd⟩ := Option.isSome_iff_exists.mp ht
    refine .pure S (u := .int k (k.wrap p)) ?_ (RV_cell.2 (.int _ _))
    simp [execOp, ho, ep, convert, run_underlying hd, run_underlying ht', Conv.intToInt]
  · cases hx

theorem RC.elems (S : Sim w0 B0 M0 N μ e h a w) {c : C} {u : Value} {es : List (List D)} (hc : RC (Mut M0 μ h) w μ (shapes h) c u) (he : elems h c = some es) : ∃ A cap, u = .slice A es.length cap := by
  unfold Vi.elems at he
  split at he
  · cases he
    cases hc with
    | rowE _ a cap => exact ⟨a, cap, rfl⟩
    | row _ _ ad cap us _ _ _ _ _ _ => exact ⟨_, cap, rfl⟩
  · rename_i id
    split at he
    · rename_i ty sz es' hh
      cases he
      obtain ⟨_, rfl⟩ := hc
      obtain ⟨_, xs, hown, _⟩ := S.heap id _ hh
      rcases hown.2 with ⟨h1, h2⟩ | ⟨g, cap, cur, h1, _⟩
      · exact ⟨none, 0, by rw [h1, h2]⟩
      · exact ⟨_, cap, h1⟩
    · cases he
  · cases he

theorem len_sound (S : Sim w0 B0 M0 N μ e h a w) {o : Go.Oper} {t e' : TypeId} {x : Operand} {x' : Arg} (ho : o.op = .call { callee := .builtin .len, args := #[x], argTypes := #[t] }) (ht : P.underlying t = some (.slice e')) (h2 : argOk x x' = true)
    (hx : opF prims e h n (.len x') = some (v, objs)) : Comes1 P w0 B0 M0 N μ e h a w o n v objs := by
  simp only [opF] at hx
  split at hx
  · rename_i c hc
    split at hx
    · rename_i es hes
      cases hx
      obtain ⟨A, cap, hu⟩ := RC.elems S (S.cell h2 hc) hes
      refine .pure S (u := .int .i64 es.length) ?_ (RV_cell.2 (.int _ _))
      simp [execOp, ho, resolve, invoke, builtin, Builtin.len_, run_underlying ht, hu, goInt]
    · cases hx
  · cases hx

theorem run_indexAt {t e' : TypeId} {sz len cap : Nat} {ad : Addr} {k : IntKind} {j : Int} (hs : P.underlying t = some (.slice e')) (hz : sizeIs P e' sz = true) (h0 : 0 ≤ j) (hl : j < len) (w : World) :
    (Instr.indexAt t (.slice (some ad) len cap) (.int k j)).run P w = .ok (.pointer (some (ad.add (j.toNat * sz)))) w := by
  simp [Instr.indexAt, asIntOf, run_underlying hs, h0, hl, sizeIs_run hz]

theorem indexAddr_sound (S : Sim w0 B0 M0 N μ e h a w) {o : Go.Oper} {t e' : TypeId} {sz : Nat} {x y : Operand} {x' y' : Arg} (ho : o.op = .indexAddr t x y) (ht : sliceIs P t e' sz = true) (h2 : argOk x x' = true) (h3 : argOk y y' = true)
    (hx : opF prims e h n (.indexAddr sz x' y') = some (v, objs)) : Comes1 P w0 B0 M0 N μ e h a w o n v objs := by
  obtain ⟨hu, hz⟩ := sliceIs_open ht
  simp only [opF] at hx
  split at hx
  · rename_i c k j hc hj
    have ej := S.int h3 hj
    have rc := S.cell h2 hc
    split at hx
    · rename_i s es
      split at hx
      · rename_i hs
        have := Nat.eq_of_beq_eq_true hs
        subst this
        split at hx
        · rename_i cs hcs
          cases hx
          obtain ⟨h0, hi⟩ := nth_eq hcs
          have hlt : j.toNat < es.length := (List.getElem?_eq_some_iff.1 hi).1
          generalize hg : a.eval x = u at rc
          cases rc with
          | rowE _ ad cap => simp at hi
          | row _ _ ad cap us hsz hcap hb hm hr hd =>
            have hbl : cs.length = s := hsz cs (List.mem_of_getElem? hi)
            have hfl := flatten_len hsz
            have hle : j.toNat * s + s ≤ es.length * s := by rw [← Nat.succ_mul]; exact Nat.mul_le_mul_right _ hlt
            refine .pure S (u := .pointer (some (ad.add (j.toNat * s)))) ?_ (RV_cell.2 ?_)
            · simp [execOp, ho, hg, ej, run_indexAt hu hz h0 (show j < ((es.length : Nat) : Int) by omega)]
            · have := RD.ro (M := Mut M0 μ h) (w := w) cs 0 (ad.add (j.toNat * s)) (fun q => us (j.toNat * s + q)) (by rw [add_block]; exact hb) (by rw [add_block]; exact hm)
                (fun q hq => by rw [add_add]; exact hr _ (by omega)) (fun q d hq => hd _ d (by rw [flatten_get hsz hi q (by have := (List.getElem?_eq_some_iff.1 hq).1; omega)]; exact hq))
              exact this
        · cases hx
      · cases hx
    · rename_i id
      split at hx
      · rename_i ty s es hh
        split at hx
        · rename_i hs
          have := Nat.eq_of_beq_eq_true hs
          subst this
          split at hx
          · rename_i cs hcs
            cases hx
            obtain ⟨h0, hi⟩ := nth_eq hcs
            have hlt : j.toNat < es.length := (List.getElem?_eq_some_iff.1 hi).1
            obtain ⟨_, hue⟩ := rc
            obtain ⟨hsz, xs, hown, hall⟩ := S.heap id _ hh
            rcases hown.2 with ⟨h4, h5⟩ | ⟨g, cap, cur, h4, _⟩
            · omega
            · refine .pure S (u := .pointer (some ⟨g, j.toNat * s + 0, none⟩)) ?_ (RV_cell.2 ⟨s, es.length, g, cap, S.heapAt hh, h0, by omega, h4, rfl⟩)
              have hadd : (⟨g, 0, none⟩ : Addr).add (j.toNat * s) = ⟨g, j.toNat * s, none⟩ := by unfold Addr.add; split <;> simp_all
              simp [execOp, ho, hue, h4, ej, run_indexAt hu hz h0 (show j < ((es.length : Nat) : Int) by omega), hadd]
          · cases hx
        · cases hx
      · cases hx
    · cases hx
  · cases hx

theorem indexStr_sound (S : Sim w0 B0 M0 N μ e h a w) {o : Go.Oper} {t : TypeId} {x y : Operand} {x' y' : Arg} (ho : o.op = .index t x y) (ht : P.underlying t = some .string) (h2 : argOk x x' = true) (h3 : argOk y y' = true)
    (hx : opF prims e h n (.indexStr x' y') = some (v, objs)) : Comes1 P w0 B0 M0 N μ e h a w o n v objs := by
  simp only [opF] at hx
  split at hx
  · rename_i s k j hs hj
    have es := S.str h2 hs
    have ej := S.int h3 hj
    unfold liftI at hx
    split at hx
    · rename_i r hr
      cases hx
      simp only [prims, Option.map_eq_some_iff] at hr
      obtain ⟨b, hb, rfl⟩ := hr
      refine .pure S (u := .int .u8 b.toNat) ?_ (RV_cell.2 (.int _ _))
      split at hb
      · rename_i h0
        simp [execOp, ho, es, ej, Instr.index, asIntOf, run_underlying ht, h0, hb]
      · cases hb
    · cases hx
  · cases hx

theorem RD.fn_eq {M : Nat → Prop} {f : Nat} {first : List (Bool × List D)} {cap : List D} {u : Value} (h : RD M w (.fn f first cap) u) : ∃ x y, u = .func (.func f) x y := by
  cases h
  exact ⟨_, _, rfl⟩

theorem nilCheck_sound (S : Sim w0 B0 M0 N μ e h a w) {o : Go.Oper} {x : Operand} {x' : Arg} (ho : o.op = .nilCheck x) (h2 : argOk x x' = true)
    (hx : opF prims e h n (.nilCheck x') = some (v, objs)) : Comes1 P w0 B0 M0 N μ e h a w o n v objs := by
  simp only [opF] at hx
  split at hx
  · rename_i c hc
    have rc := S.cell h2 hc
    split at hx
    · rename_i cs i
      cases hx
      obtain ⟨ad, hu, _⟩ := (RC.ptr 0).1 cs i rfl rc
      exact .pure S (u := .pointer (some ad)) (by simp [execOp, ho, hu]) (RV_cell.2 (by rw [← hu]; exact rc))
    · rename_i id i
      cases hx
      obtain ⟨ad, hu, _⟩ := (RC.ptr 0).2.1 id i rfl rc
      exact .pure S (u := .pointer (some ad)) (by simp [execOp, ho, hu]) (RV_cell.2 (by rw [← hu]; exact rc))
    · rename_i id i off
      cases hx
      obtain ⟨ad, hu, _⟩ := (RC.ptr 0).2.2 id i off rfl rc
      exact .pure S (u := .pointer (some ad)) (by simp [execOp, ho, hu]) (RV_cell.2 (by rw [← hu]; exact rc))
    · rename_i f p q
      cases hx
      obtain ⟨x1, y1, hu⟩ := RD.fn_eq (show RD _ w (.fn f p q) _ from rc)
      exact .pure S (u := .func (.func f) x1 y1) (by simp [execOp, ho, hu]) (RV_cell.2 (by rw [← hu]; exact rc))
    · rename_i f p q
      cases hx
      obtain ⟨fs, cs, h4, h5, hu⟩ := rc
      exact .pure S (u := a.eval x) (by simp [execOp, ho, hu]) (RV_cell.2 ⟨fs, cs, h4, h5, hu⟩)
    · cases hx
  · cases hx

theorem cutStr_eq {s r : ByteArray} {lo hi : Option Int} (h : prims.strCut s lo hi = some r) : 0 ≤ lo.getD 0 ∧ lo.getD 0 ≤ hi.getD s.size ∧ hi.getD s.size ≤ s.size ∧ r = s.extract (lo.getD 0).toNat (hi.getD s.size).toNat := by
  simp only [prims] at h
  split at h
  · rename_i hc
    cases h
    exact ⟨hc.1, hc.2.1, hc.2.2, rfl⟩
  · cases h

def oargOk : Option Operand → Option Arg → Bool
  | none, none => true
  | some x, some y => argOk x y
  | _, _ => false
theorem oint_open (S : Sim w0 B0 M0 N μ e h a w) {x : Option Operand} {y : Option Arg} {r : Option Int} (ho : oargOk x y = true) (hy : Arg.oint e y = some r) :
    (x = none ∧ r = none) ∨ ∃ o k n, x = some o ∧ r = some n ∧ a.eval o = .int k n := by
  cases x <;> cases y <;> simp [oargOk] at ho
  · simp [Arg.oint] at hy
    exact .inl ⟨rfl, hy.symm⟩
  · rename_i o y
    simp only [Arg.oint] at hy
    split at hy
    · rename_i k n hn
      cases hy
      exact .inr ⟨o, k, n, rfl, rfl, S.int ho hn⟩
    · cases hy

theorem run_sliceBound {k : IntKind} {i : Int} {y : Nat} {c : BoundsCode} (h0 : 0 ≤ i) (h1 : i ≤ y) (w : World) : (Instr.sliceBound (.int k i) y c).run P w = .ok i.toNat w := by
  simp [Instr.sliceBound, asIntOf, h0, h1]
theorem run_sliceBounds {b : Bool} {len cap : Nat} {lo hi : Option Operand} {l u : Option Int} (hl : (lo = none ∧ l = none) ∨ ∃ o k n, lo = some o ∧ l = some n ∧ a.eval o = .int k n)
    (hu : (hi = none ∧ u = none) ∨ ∃ o k n, hi = some o ∧ u = some n ∧ a.eval o = .int k n) (h0 : 0 ≤ l.getD 0) (h1 : l.getD 0 ≤ u.getD len) (h2 : u.getD len ≤ len) (hc : len ≤ cap) (w : World) :
    (Instr.sliceBounds b len cap (lo.map a.eval) (hi.map a.eval) none).run P w = .ok ((l.getD 0).toNat, (u.getD len).toNat, cap) w := by
  rcases hl with ⟨rfl, rfl⟩ | ⟨o, k, i, rfl, rfl, ho⟩ <;> rcases hu with ⟨rfl, rfl⟩ | ⟨o', k', j, rfl, rfl, ho'⟩ <;> simp only [Option.getD_some, Option.getD_none] at h0 h1 h2 ⊢
  · simp [Instr.sliceBounds]
  · simp [Instr.sliceBounds, ho', run_sliceBound h1 (show j ≤ (cap : Int) by omega)]
  · simp [Instr.sliceBounds, ho, run_sliceBound h0 (show i ≤ (len : Int) by omega)]
  · simp [Instr.sliceBounds, ho, ho', run_sliceBound (show 0 ≤ j by omega) (show j ≤ (cap : Int) by omega), run_sliceBound h0 (show i ≤ ((j.toNat : Nat) : Int) by omega)]

theorem cutStr_sound (S : Sim w0 B0 M0 N μ e h a w) {o : Go.Oper} {t : TypeId} {x : Operand} {lo hi : Option Operand} {x' : Arg} {lo' hi' : Option Arg} (ho : o.op = .slice t x lo hi none) (ht : P.underlying t = some .string) (h2 : argOk x x' = true)
    (h3 : oargOk lo lo' = true) (h4 : oargOk hi hi' = true) (hx : opF prims e h n (.cutStr x' lo' hi') = some (v, objs)) : Comes1 P w0 B0 M0 N μ e h a w o n v objs := by
  simp only [opF] at hx
  split at hx
  · rename_i s l u hs hl hu
    split at hx
    · rename_i r hr
      cases hx
      obtain ⟨h5, h6, h7, rfl⟩ := cutStr_eq hr
      have es := S.str h2 hs
      refine .pure S (u := .string _) ?_ (RV_cell.2 (.str _))
      simp [execOp, ho, Instr.sliceAt, run_underlying ht, Instr.slice, es, run_sliceBounds (oint_open S h3 hl) (oint_open S h4 hu) h5 h6 h7 (Nat.le_refl _)]
    · cases hx
  · cases hx

theorem cut_eq {es r : List (List D)} {lo hi : Option Int} (h : prims.cut es lo hi = some r) : 0 ≤ lo.getD 0 ∧ lo.getD 0 ≤ hi.getD es.length ∧ hi.getD es.length ≤ es.length ∧ r = (es.take (hi.getD es.length).toNat).drop (lo.getD 0).toNat := by
  simp only [prims] at h
  split at h
  · rename_i hc
    cases h
    exact ⟨hc.1, hc.2.1, hc.2.2, rfl⟩
  · cases h

theorem cut_sound (S : Sim w0 B0 M0 N μ e h a w) {o : Go.Oper} {t e' : TypeId} {sz : Nat} {x : Operand} {lo hi : Option Operand} {x' : Arg} {lo' hi' : Option Arg} (ho : o.op = .slice t x lo hi none) (ht : sliceIs P t e' sz = true) (h2 : argOk x x' = true)
    (h3 : oargOk lo lo' = true) (h4 : oargOk hi hi' = true) (hx : opF prims e h n (.cut sz x' lo' hi') = some (v, objs)) : Comes1 P w0 B0 M0 N μ e h a w o n v objs := by
  obtain ⟨htu, hz⟩ := sliceIs_open ht
  simp only [opF] at hx
  split at hx
  · rename_i s es l u hs hl hu
    split at hx
    · rename_i hsz
      have := Nat.eq_of_beq_eq_true hsz
      subst this
      split at hx
      · rename_i r hr
        cases hx
        obtain ⟨h5, h6, h7, rfl⟩ := cut_eq hr
        have rd := S.dat h2 hs
        generalize hg : a.eval x = uu at rd
        have hb := fun len cap h5 h6 h7 hc => run_sliceBounds (P := P) (b := true) (len := len) (cap := cap) (oint_open S h3 hl) (oint_open S h4 hu) h5 h6 h7 hc w
        have hrun : ∀ A cap, uu = .slice A es.length cap → es.length ≤ cap → (execOp a.eval o).run P w = .ok (.value (.slice (if cap = (l.getD 0).toNat then A else A.map (·.add ((l.getD 0).toNat * s))) ((u.getD es.length).toNat - (l.getD 0).toNat) (cap - (l.getD 0).toNat))) w := by
          intro A cap hA hc
          simp [execOp, ho, Instr.sliceAt, run_underlying htu, Instr.slice, hg, hA, hb es.length cap h5 h6 h7 hc, sizeIs_run hz]
        cases rd with
        | rowE _ ad cap =>
          refine .pure S (hrun ad cap rfl (Nat.zero_le _)) (RV_cell.2 ?_)
          have e1 : (u.getD (([] : List (List D)).length)).toNat - (l.getD 0).toNat = 0 := by simp at h7 h6 ⊢; omega
          rw [e1]
          simp only [List.take_nil, List.drop_nil]
          exact .rowE _ _ _
        | row _ _ ad cap us hs hcap hbl hm hrr hd =>
          refine .pure S (hrun _ cap rfl hcap) (RV_cell.2 ?_)
          have hlen : ((es.take (u.getD es.length).toNat).drop (l.getD 0).toNat).length = (u.getD es.length).toNat - (l.getD 0).toNat := by
            rw [List.length_drop, List.length_take]
            omega
          by_cases hz0 : (u.getD es.length).toNat - (l.getD 0).toNat = 0
          · have : (es.take (u.getD es.length).toNat).drop (l.getD 0).toNat = [] := List.eq_nil_of_length_eq_zero (by rw [hlen, hz0])
            rw [this, hz0]
            exact .rowE _ _ _
          · have hne : ¬ cap = (l.getD 0).toNat := by omega
            rw [if_neg hne, ← hlen]
            have hs' : ∀ cs ∈ (es.take (u.getD es.length).toNat).drop (l.getD 0).toNat, cs.length = s := fun cs hcs => hs cs (List.mem_of_mem_take (List.mem_of_mem_drop hcs))
            have hfl := flatten_len hs
            have hfl' := flatten_len hs'
            have hget : ∀ j, j < ((es.take (u.getD es.length).toNat).drop (l.getD 0).toNat).flatten.length → (((es.take (u.getD es.length).toNat).drop (l.getD 0).toNat).flatten)[j]? = es.flatten[(l.getD 0).toNat * s + j]? := by
              intro j hj
              rw [hfl', hlen] at hj
              have hs0 : 0 < s := by
                rcases Nat.eq_zero_or_pos s with h | h
                · subst h; simp at hj
                · exact h
              have hq : j / s < (u.getD es.length).toNat - (l.getD 0).toNat := by rw [Nat.div_lt_iff_lt_mul hs0]; exact hj
              obtain ⟨cs, hcs⟩ : ∃ cs, es[(l.getD 0).toNat + j / s]? = some cs := ⟨_, List.getElem?_eq_getElem (by omega)⟩
              have hcs' : ((es.take (u.getD es.length).toNat).drop (l.getD 0).toNat)[j / s]? = some cs := by
                rw [List.getElem?_drop, List.getElem?_take, if_pos (by omega)]
                exact hcs
              have e1 := flatten_get hs' hcs' (j % s) (Nat.mod_lt _ hs0)
              have e2 := flatten_get hs hcs (j % s) (Nat.mod_lt _ hs0)
              rw [show j / s * s + j % s = j by rw [Nat.mul_comm]; exact Nat.div_add_mod _ _] at e1
              rw [Nat.add_mul, Nat.add_assoc, show j / s * s + j % s = j by rw [Nat.mul_comm]; exact Nat.div_add_mod _ _] at e2
              rw [e1, e2]
            have hle : ((u.getD es.length).toNat - (l.getD 0).toNat) * s + (l.getD 0).toNat * s ≤ es.length * s := by rw [← Nat.add_mul]; exact Nat.mul_le_mul_right _ (by omega)
            exact .row _ _ (ad.add ((l.getD 0).toNat * s)) _ (fun j => us ((l.getD 0).toNat * s + j)) hs' (by rw [hlen]; omega) (by rw [add_block]; exact hbl) (by rw [add_block]; exact hm)
              (fun j hj => by rw [add_add]; exact hrr _ (by rw [hfl', hlen] at hj; rw [hfl]; omega)) (fun j d hj => hd _ d (by rw [← hget j (List.getElem?_eq_some_iff.1 hj).1]; exact hj))
      · cases hx
    · cases hx
  · cases hx
end
end Go.Vi
namespace Go.Vi
open Go.RowKit
set_option linter.unusedVariables false
set_option linter.unusedSimpArgs false

theorem RCap.one {M : Nat → Prop} {w : World} {μ : Nat → Value} {s : Nat → Option Sh} {c : Cap} {v : Value} (h : RCap M w μ s c v) : v.oneCell' = true := by
  cases c with
  | d x => exact RD.one h
  | loc id off => obtain ⟨_, g, _, rfl⟩ := h; rfl

section
variable {P : Program} {w0 : World} {B0 M0 : Nat → Prop} {N : Nat} {μ : Nat → Value} {e : EnvF} {h : HeapF} {a : Act} {w : World} {n : Nat} {v : V} {objs : List Obj}

theorem RC.one (S : Sim w0 B0 M0 N μ e h a w) {c : C} {u : Value} (hc : RC (Mut M0 μ h) w μ (shapes h) c u) : u.oneCell' = true := by
  cases c with
  | d x => exact RD.one hc
  | own id =>
    obtain ⟨⟨sz, len, h1⟩, rfl⟩ := hc
    simp only [shapes, Option.map_eq_some_iff] at h1
    obtain ⟨o, h1, h2⟩ := h1
    have := S.heap id o h1
    cases o with
    | blk cs => cases h2
    | arr ty sz es =>
      obtain ⟨_, xs, hown, _⟩ := this
      rcases hown.2 with ⟨h4, _⟩ | ⟨g, cap, cur, h4, _⟩ <;> rw [h4] <;> rfl
    | map _ _ => cases h2
    | saved _ _ => cases h2
    | lp _ _ _ _ => cases h2
  | loc id off => obtain ⟨_, g, _, rfl⟩ := hc; rfl
  | el id i off => obtain ⟨_, _, _, _, _, _, _, _, rfl⟩ := hc; rfl
  | fn f x y => obtain ⟨_, _, _, _, rfl⟩ := hc; rfl
  | lmap id =>
    obtain ⟨h1, rfl⟩ := hc
    simp only [shapes, Option.map_eq_some_iff] at h1
    obtain ⟨o, h1, h2⟩ := h1
    have := S.heap id o h1
    cases o with
    | blk cs => cases h2
    | arr ty sz es => cases h2
    | map _ _ => obtain ⟨r, _, _, h3, _⟩ := this; rw [h3]; rfl
    | saved _ _ => cases h2
    | lp _ _ _ _ => cases h2
  | dead => exact hc
theorem cells_one {u : Value} (h : u.oneCell' = true) : u.cells = #[u] := by cases u <;> first | rfl | (simp [Value.oneCell'] at h)
theorem RV.cells (S : Sim w0 B0 M0 N μ e h a w) {b : Bool} {cs : List C} {u : Value} (hv : RV (Mut M0 μ h) w μ (shapes h) (.v b cs) u) :
    All2 (RC (Mut M0 μ h) w μ (shapes h)) cs u.cells.toList := by
  obtain ⟨us, h1, h2, rfl⟩ := hv
  cases b with
  | true => simpa [mkV, Value.cells] using h1
  | false =>
    match us, h2 with
    | [u], _ =>
      have : u.oneCell' = true := by
        match cs, h1 with
        | [c], h1 => exact RC.one S h1.1
      simpa [mkV, cells_one this] using h1

/-- A new object, and what comes beside it. -/
theorem newNil_sound (S : Sim w0 B0 M0 N μ e h a w) {o : Go.Oper} {t sz : Nat} (ho : o.op = .assign (.const (.slice none 0 0)) ∨ o.op = .move (.const (.slice none 0 0))) (hf : h n = none)
    (hx : opF prims e h n (.newNil t sz) = some (v, objs)) : Comes1 P w0 B0 M0 N μ e h a w o n v objs := by
  simp only [opF, Option.some.injEq, Prod.mk.injEq] at hx
  obtain ⟨rfl, rfl⟩ := hx
  have hn : fnew h n [Obj.arr t sz []] n = some (.arr t sz []) := by simpa using fnew_new (h := h) (n := n) (objs := [Obj.arr t sz []]) (j := 0) rfl
  refine ⟨.slice none 0 0, w, fun id => if id = n then .slice none 0 0 else μ id, by rcases ho with ho | ho <;> simp [execOp, ho, Act.eval], fun id o hi => ?_, S.new (fun id h1 h2 => ?_) (fun id o hi => ?_) (Below.refl _ _) ?_ ?_ ?_, RV_cell.2 ⟨⟨sz, 0, by simp [shapes, hn, Obj.sh]⟩, by simp⟩⟩
  · have : id ≠ n := by rintro rfl; rw [hf] at hi; cases hi
    simp [this]
  · obtain rfl : id = n := by simp at h2; omega
    exact hf
  · have : id ≠ n := by rintro rfl; rw [hf] at hi; cases hi
    simp [this]
  · intro j o k hj hk
    match j, hj with
    | 0, hj => simp [blkOf] at hk
  · intro i j o p k hi hj hbi hbj
    match i, hi with
    | 0, hi => simp [blkOf] at hbi
  · intro j o hj
    match j, hj with
    | 0, hj =>
      simp at hj
      subst hj
      simp only [Nat.add_zero, if_true]
      exact ⟨by simp, [], World.ownsRow_nil _ _ _ _, trivial⟩

theorem run_newRow (t : TypeId) (cells : Array Value) (w : World) : (newRow t cells).run P w = .ok ⟨w.heap.size, 0, none⟩ (w.alloc (.cells cells t)) := rfl
theorem below_alloc (w : World) (o : Go.Obj) : Below w.heap.size w (w.alloc o) := (Below.refl _ _).alloc (Nat.le_refl _) _

/-- The values of what is made anew: one object in a new block, and empty arrays beside it. -/
def muNew (μ : Nat → Value) (n : Nat) (v0 : Value) (k : Nat) : Nat → Value := fun id => if id = n then v0 else if n < id ∧ id ≤ n + k then .slice none 0 0 else μ id
def nils (zs : List (Nat × Nat)) : List Obj := zs.map fun p => .arr p.1 p.2 []

theorem Sim.alloc (S : Sim w0 B0 M0 N μ e h a w) {o0 : Obj} {v0 : Value} {zs : List (Nat × Nat)} {w' : World} (hf : ∀ id, n ≤ id → id ≤ n + zs.length → h id = none) (hb : Below w.heap.size w w')
    (hv : ∀ k, blkOf v0 = some k → w.heap.size ≤ k ∧ k < w'.heap.size)
    (ho : (∀ k, k < w.heap.size → Mut M0 (muNew μ n v0 zs.length) (fnew h n (o0 :: nils zs)) k → Mut M0 μ h k) → Agree μ (muNew μ n v0 zs.length) (shapes h) (shapes (fnew h n (o0 :: nils zs))) →
      (∀ j p, zs[j]? = some p → shapes (fnew h n (o0 :: nils zs)) (n + 1 + j) = some (.a p.2 0) ∧ muNew μ n v0 zs.length (n + 1 + j) = .slice none 0 0) →
      OOk (Mut M0 (muNew μ n v0 zs.length) (fnew h n (o0 :: nils zs))) w' (muNew μ n v0 zs.length) (shapes (fnew h n (o0 :: nils zs))) v0 o0) :
    Sim w0 B0 M0 N (muNew μ n v0 zs.length) e (fnew h n (o0 :: nils zs)) a w' ∧ (∀ id o, h id = some o → muNew μ n v0 zs.length id = μ id) ∧ fnew h n (o0 :: nils zs) n = some o0 := by
  have hl : (o0 :: nils zs).length = zs.length + 1 := by simp [nils]
  have hμ : ∀ id o, h id = some o → muNew μ n v0 zs.length id = μ id := fun id o hi => by
    unfold muNew
    by_cases h1 : n ≤ id ∧ id ≤ n + zs.length
    · rw [hf id h1.1 h1.2] at hi; cases hi
    · rw [if_neg (by rintro rfl; exact h1 ⟨Nat.le_refl _, Nat.le_add_right _ _⟩), if_neg (by omega)]
  have hf' : ∀ id, n ≤ id → id < n + (o0 :: nils zs).length → h id = none := fun id h1 h2 => hf id h1 (by rw [hl] at h2; omega)
  have hn : fnew h n (o0 :: nils zs) n = some o0 := by simpa using fnew_new (h := h) (n := n) (objs := o0 :: nils zs) (j := 0) rfl
  have hnew : ∀ j o, (o0 :: nils zs)[j]? = some o → (j = 0 ∧ o = o0) ∨ ∃ i p, j = i + 1 ∧ zs[i]? = some p ∧ o = .arr p.1 p.2 [] ∧ muNew μ n v0 zs.length (n + j) = .slice none 0 0 := by
    intro j o hj
    match j, hj with
    | 0, hj => simp at hj; exact .inl ⟨rfl, hj.symm⟩
    | i + 1, hj =>
      simp only [List.getElem?_cons_succ, nils, List.getElem?_map, Option.map_eq_some_iff] at hj
      obtain ⟨p, hp, rfl⟩ := hj
      have := (List.getElem?_eq_some_iff.1 hp).1
      exact .inr ⟨i, p, rfl, hp, rfl, by unfold muNew; rw [if_neg (by omega), if_pos (by omega)]⟩
  have hM : ∀ k, k < w.heap.size → Mut M0 (muNew μ n v0 zs.length) (fnew h n (o0 :: nils zs)) k → Mut M0 μ h k := by
    rintro k hk (h1 | ⟨id, o, h1, h2⟩)
    · exact .inl h1
    · rcases fnew_inv h1 with h3 | ⟨j, rfl, h3⟩
      · exact .inr ⟨id, o, h3, by rw [← hμ id o h3]; exact h2⟩
      · rcases hnew j o h3 with ⟨rfl, rfl⟩ | ⟨i, p, rfl, _, _, h4⟩
        · have := (hv k (by simpa [muNew] using h2)).1
          omega
        · rw [h4] at h2; cases h2
  have hA : Agree μ (muNew μ n v0 zs.length) (shapes h) (shapes (fnew h n (o0 :: nils zs))) := by
    intro id s hs
    simp only [shapes, Option.map_eq_some_iff] at hs
    obtain ⟨o, hi, rfl⟩ := hs
    exact ⟨by simp [shapes, fnew_old hf' hi], hμ id o hi⟩
  have hz : ∀ j p, zs[j]? = some p → shapes (fnew h n (o0 :: nils zs)) (n + 1 + j) = some (.a p.2 0) ∧ muNew μ n v0 zs.length (n + 1 + j) = .slice none 0 0 := by
    intro j p hp
    have h1 : (o0 :: nils zs)[j + 1]? = some (.arr p.1 p.2 []) := by simp [nils, hp]
    have h2 := fnew_new (h := h) (n := n) h1
    rw [show n + (j + 1) = n + 1 + j by omega] at h2
    have := (List.getElem?_eq_some_iff.1 hp).1
    exact ⟨by simp [shapes, h2, Obj.sh], by unfold muNew; rw [if_neg (by omega), if_pos (by omega)]⟩
  refine ⟨S.new hf' hμ hb ?_ ?_ ?_, hμ, hn⟩
  · intro j o k hj hk
    rcases hnew j o hj with ⟨rfl, rfl⟩ | ⟨i, p, rfl, _, _, h4⟩
    · exact hv k (by simpa [muNew] using hk)
    · rw [h4] at hk; cases hk
  · intro i j o p k hi hj hbi hbj
    rcases hnew i o hi with ⟨rfl, rfl⟩ | ⟨i', p', rfl, _, _, h4⟩
    · rcases hnew j p hj with ⟨rfl, rfl⟩ | ⟨j', q', rfl, _, _, h5⟩
      · rfl
      · rw [h5] at hbj; cases hbj
    · rw [h4] at hbi; cases hbi
  · intro j o hj
    rcases hnew j o hj with ⟨rfl, rfl⟩ | ⟨i, p, rfl, _, rfl, h4⟩
    · have := ho hM hA hz
      simpa [muNew] using this
    · rw [h4]
      exact ⟨by simp, [], World.ownsRow_nil _ _ _ _, trivial⟩

theorem box_sound (S : Sim w0 B0 M0 N μ e h a w) {o : Go.Oper} {t : TypeId} {x : Operand} {x' : Arg} (ho : o.op = .box t x) (h2 : argOk x x' = true) (hf : ∀ id, n ≤ id → id < n + 1 → h id = none)
    (hx : opF prims e h n (.box x') = some (v, objs)) : Comes1 P w0 B0 M0 N μ e h a w o n v objs := by
  simp only [opF] at hx
  split at hx
  · rename_i b cs hc
    cases hx
    have hall := RV.cells S (S.arg h2 hc)
    have hb := below_alloc w (.cells (a.eval x).cells t)
    obtain ⟨S', hμ, hn⟩ := S.alloc (n := n) (o0 := .blk cs) (v0 := .pointer (some ⟨w.heap.size, 0, none⟩)) (zs := []) (w' := w.alloc (.cells (a.eval x).cells t)) (fun id h1 h2 => hf id h1 (by simp at h2; omega)) hb
      (fun k hk => by simp [blkOf] at hk; subst hk; simp) fun hM hA _ =>
        ⟨w.heap.size, t, (a.eval x).cells, rfl, heap_alloc_new w _, hall.mono fun c u hu => hu.keep (Leaves.of_below hb) hM hA⟩
    exact ⟨.pointer (some ⟨w.heap.size, 0, none⟩), _, _, by simp [execOp, ho, Instr.box, newVar, run_newRow], hμ, S', RV_cell.2 ⟨(congrArg (Option.map Obj.sh) hn : _), _, by simp [muNew], rfl⟩⟩
  · cases hx

def zeroOk : List Value → List Zero → Bool
  | [], [] => true
  | u :: us, .d x :: zs => constOk u x && zeroOk us zs
  | .slice none 0 0 :: us, .nil _ _ :: zs => zeroOk us zs
  | _, _ => false
def nilsOf : List Zero → List (Nat × Nat)
  | [] => []
  | .d _ :: r => nilsOf r
  | .nil e sz :: r => (e, sz) :: nilsOf r
theorem zeroO_eq : ∀ zs : List Zero, zeroO zs = nils (nilsOf zs)
  | [] => rfl
  | .d _ :: r => by simp [zeroO, nilsOf, zeroO_eq r]
  | .nil e sz :: r => by simp [zeroO, nilsOf, zeroO_eq r, nils]
theorem zeroC_all {M : Nat → Prop} {w : World} {μ : Nat → Value} {s : Nat → Option Sh} : ∀ {us : List Value} {zs : List Zero} {m : Nat}, zeroOk us zs = true →
    (∀ j p, (nilsOf zs)[j]? = some p → s (m + j) = some (.a p.2 0) ∧ μ (m + j) = .slice none 0 0) → All2 (RC M w μ s) (zeroC m zs) us
  | [], [], m, _, _ => trivial
  | u :: us, .d x :: zs, m, h, hs => by
    simp only [zeroOk, Bool.and_eq_true] at h
    exact ⟨constOk_sound h.1 M w, zeroC_all h.2 hs⟩
  | u :: us, .nil e sz :: zs, m, h, hs => by
    have hu : u = .slice none 0 0 ∧ zeroOk us zs = true := by
      unfold zeroOk at h
      split at h <;> simp_all
    obtain ⟨rfl, h⟩ := hu
    obtain ⟨h1, h2⟩ := hs 0 (e, sz) rfl
    refine ⟨⟨⟨sz, 0, h1⟩, h2.symm⟩, zeroC_all h fun j p hp => ?_⟩
    have := hs (j + 1) p (by simpa [nilsOf] using hp)
    rwa [show m + (j + 1) = m + 1 + j by omega] at this
  | [], .d _ :: _, _, h, _ => by simp [zeroOk] at h
  | [], .nil _ _ :: _, _, h, _ => by simp [zeroOk] at h
  | _ :: _, [], _, h, _ => by simp [zeroOk] at h
def zeroIs (P : Program) (t : TypeId) (zs : List Zero) : Bool := match P.info? t with
  | some i => match i.zero with
    | some z => zeroOk z.cells.toList zs
    | none => false
  | none => false
theorem zeroIs_open {t : TypeId} {zs : List Zero} (hz : zeroIs P t zs = true) : ∃ z, (∀ w, (zeroValue t).run P w = .ok z w) ∧ zeroOk z.cells.toList zs = true := by
  unfold zeroIs at hz
  split at hz
  · rename_i i hi
    split at hz
    · rename_i z hzz
      exact ⟨z, fun w => by simp [zeroValue, typeInfo, hi, hzz], hz⟩
    · cases hz
  · cases hz

theorem nilsOf_length : ∀ (zs : List Zero), (nilsOf zs).length = countN zs
  | [] => rfl
  | .d _ :: r => by simp [nilsOf, countN, Zero.isNil, nilsOf_length r]
  | .nil _ _ :: r => by simp [nilsOf, countN, Zero.isNil, nilsOf_length r]
theorem alloc_sound (S : Sim w0 B0 M0 N μ e h a w) {o : Go.Oper} {t : TypeId} {zs : List Zero} (ho : o.op = .alloc t) (hz : zeroIs P t zs = true) (hf : ∀ id, n ≤ id → id < n + (countN zs + 1) → h id = none)
    (hx : opF prims e h n (.alloc zs) = some (v, objs)) : Comes1 P w0 B0 M0 N μ e h a w o n v objs := by
  simp only [opF, Option.some.injEq, Prod.mk.injEq] at hx
  obtain ⟨rfl, rfl⟩ := hx
  obtain ⟨z, hrun, hzok⟩ := zeroIs_open hz
  have hb := below_alloc w (.cells z.cells t)
  rw [zeroO_eq]
  obtain ⟨S', hμ, hn⟩ := S.alloc (n := n) (o0 := .blk (zeroC (n + 1) zs)) (v0 := .pointer (some ⟨w.heap.size, 0, none⟩)) (zs := nilsOf zs) (w' := w.alloc (.cells z.cells t)) (fun id h1 h2 => hf id h1 (by rw [nilsOf_length] at h2; omega)) hb
    (fun k hk => by simp [blkOf] at hk; subst hk; simp) fun hM hA hzz =>
      ⟨w.heap.size, t, z.cells, rfl, heap_alloc_new w _, zeroC_all hzok hzz⟩
  exact ⟨.pointer (some ⟨w.heap.size, 0, none⟩), _, _, by simp [execOp, ho, Instr.alloc, newVar, run_newRow, hrun], hμ, S', RV_cell.2 ⟨(congrArg (Option.map Obj.sh) hn : _), _, by simp [muNew], rfl⟩⟩

/-! ### struct values, rows out of parts -/
theorem setL_all {R : C → Value → Prop} : ∀ {cs r : List C} {us : List Value} {off : Nat} {xs : List C} {ys : List Value}, setL cs off xs = some r → All2 R cs us → All2 R xs ys →
    All2 R r (us.take off ++ ys ++ us.drop (off + ys.length)) ∧ off + ys.length ≤ us.length ∨ (xs = [] ∧ r = cs)
  | cs, r, us, off, [], ys, h, hc, hx => by
    cases cs <;> cases off <;> simp only [setL, Option.some.injEq] at h <;> (subst h; exact .inr ⟨rfl, rfl⟩)
  | [], r, us, off, x :: xs, ys, h, _, _ => by cases off <;> simp [setL] at h
  | c :: cs, r, u :: us, 0, x :: xs, y :: ys, h, hc, hx => by
    simp only [setL] at h
    split at h
    · rename_i r' hr
      cases h
      rcases setL_all hr hc.2 hx.2 with ⟨h1, h2⟩ | ⟨rfl, rfl⟩
      · refine .inl ⟨⟨hx.1, ?_⟩, by simp at h2 ⊢; omega⟩
        simpa [Nat.add_comm] using h1
      · have : ys = [] := by
          match ys, hx.2 with
          | [], _ => rfl
        subst this
        exact .inl ⟨⟨hx.1, by simpa using hc.2⟩, by simp⟩
    · cases h
  | c :: cs, r, u :: us, k + 1, x :: xs, y :: ys, h, hc, hx => by
    simp only [setL] at h
    split at h
    · rename_i r' hr
      cases h
      rcases setL_all hr hc.2 hx with ⟨h1, h2⟩ | ⟨h1, _⟩
      · refine .inl ⟨⟨hc.1, ?_⟩, by simp at h2 ⊢; omega⟩
        have e1 : k + 1 + (y :: ys).length = (k + (y :: ys).length) + 1 := by omega
        rw [e1]
        simpa using h1
      · cases h1
    · cases h
  | _ :: _, _, [], _, _ :: _, _, _, hc, _ => hc.elim
  | _ :: _, _, _ :: _, _, _ :: _, [], _, _, hx => hx.elim

theorem put_cells : ∀ (vs : List Value) (k off : Nat) (cells : Array Value), off + k + vs.length ≤ cells.size →
    ((vs.zipIdx k).foldl (fun (cs : Array Value) (p : Value × Nat) => cs.setIfInBounds (off + p.2) p.1) cells).toList = cells.toList.take (off + k) ++ vs ++ cells.toList.drop (off + k + vs.length)
  | [], k, off, cells, h => by simp
  | v :: vs, k, off, cells, h => by
    simp only [List.zipIdx_cons, List.foldl_cons]
    rw [put_cells vs (k + 1) off _ (by simp at h ⊢; omega)]
    have hi : off + k < cells.size := by simp at h; omega
    rw [Array.toList_setIfInBounds]
    rw [show off + (k + 1) = off + k + 1 by omega, List.take_set, List.drop_set_of_lt (by omega)]
    have : (cells.toList.take (off + k + 1)).set (off + k) v = cells.toList.take (off + k) ++ [v] := by
      rw [List.take_succ_eq_append_getElem (by simpa using hi), List.set_append_right _ _ (by simp; omega)]
      simp [Nat.min_eq_left (Nat.le_of_lt hi)]
    rw [this]
    simp [Nat.add_assoc, Nat.add_comm 1]

theorem fill_cells {cells vs : Array Value} {off : Nat} (h : off + vs.size ≤ cells.size) :
    (vs.zipIdx.foldl (fun (cs : Array Value) (p : Value × Nat) => cs.setIfInBounds (off + p.2) p.1) cells).toList = cells.toList.take off ++ vs.toList ++ cells.toList.drop (off + vs.size) := by
  have := put_cells vs.toList 0 off cells (by simpa using h)
  rw [← Array.foldl_toList]
  simpa using this

/-- Parts of a struct or an array literal: where each goes, how many cells it has, what it is. -/
def partsOk (place : Nat → Option (Nat × Nat)) : List (Nat × Operand) → List (Nat × Nat × Arg) → Bool
  | [], [] => true
  | (i, x) :: r, (off, k, y) :: q => (match place i with
    | some p => p.1 == off && p.2 == k && !(k == 0)
    | none => false) && argOk x y && partsOk place r q
  | _, _ => false
theorem fill_sound (S : Sim w0 B0 M0 N μ e h a w) {M : Nat → Prop} {μ' : Nat → Value} {s' : Nat → Option Sh} {w' : World} {place : Nat → Option (Nat × Nat)}
    (hk : ∀ {c u}, RC (Mut M0 μ h) w μ (shapes h) c u → RC M w' μ' s' c u) : ∀ {parts : List (Nat × Operand)} {ps : List (Nat × Nat × Arg)} {cs r : List C} {cells : Array Value},
    partsOk place parts ps = true → fillP e cs ps = some r → All2 (RC M w' μ' s') cs cells.toList →
    ∃ cells', Instr.fill place cells (parts.map fun p => (p.1, a.eval p.2)) = some cells' ∧ All2 (RC M w' μ' s') r cells'.toList
  | [], [], cs, r, cells, _, hf, hc => by
    simp only [fillP, Option.some.injEq] at hf
    subst hf
    exact ⟨cells, rfl, hc⟩
  | (i, x) :: parts, (off, k, y) :: ps, cs, r, cells, hp, hf, hc => by
    simp only [partsOk, Bool.and_eq_true] at hp
    obtain ⟨⟨h1, h2⟩, h3⟩ := hp
    split at h1
    · rename_i p hpl
      simp only [Bool.and_eq_true, beq_iff_eq, Bool.not_eq_true', beq_eq_false_iff_ne, ne_eq] at h1
      obtain ⟨h1, hk0⟩ := h1
      simp only [fillP] at hf
      split at hf
      · rename_i b xs hv
        split at hf
        · rename_i hl
          have hl := Nat.eq_of_beq_eq_true hl
          split at hf
          · rename_i cs' hcs
            have hall := (RV.cells S (S.arg h2 hv)).mono fun _ _ => hk
            have hlen := hall.length
            have hput : All2 (RC M w' μ' s') cs' (((a.eval x).cells.zipIdx.foldl (fun (cs : Array Value) (p : Value × Nat) => cs.setIfInBounds (off + p.2) p.1) cells).toList) ∧ off + (a.eval x).cells.size ≤ cells.size ∨ xs = [] ∧ cs' = cs := by
              rcases setL_all hcs hc hall with ⟨h5, h6⟩ | h5
              · left
                rw [Array.length_toList] at h5 h6
                rw [fill_cells (by simpa using h6)]
                exact ⟨h5, by simpa using h6⟩
              · exact .inr h5
            rcases hput with ⟨h5, h6⟩ | ⟨rfl, rfl⟩
            · obtain ⟨cells', h7, h8⟩ := fill_sound S hk h3 hf h5
              refine ⟨cells', ?_, h8⟩
              have hz : ((a.eval x).cells.size ≠ p.2 || off + (a.eval x).cells.size > cells.size) = false := by
                have : (a.eval x).cells.size = k := by rw [← Array.length_toList, ← hlen, hl]
                simp [this, h1.2]
                omega
              simp only [List.map_cons, Instr.fill, hpl]
              rw [show p = (off, p.2) by rw [← h1.1]] 
              simp only [hz]
              exact h7
            · exact absurd hl.symm hk0
          · cases hf
        · cases hf
      · cases hf
    · cases h1
  | [], _ :: _, _, _, _, hp, _, _ => by simp [partsOk] at hp
  | _ :: _, [], _, _, _, hp, _, _ => by simp [partsOk] at hp

def placeOf (P : Program) (t : TypeId) : Nat → Option (Nat × Nat) := match P.underlying t with
  | some (.struct fs) => fun i => match fs[i]? with
    | some q => match P.info? q.type with
      | some f => some (q.offset, f.size)
      | none => none
    | none => none
  | some (.array _ q) => match P.info? q with
    | some f => fun i => some (i * f.size, f.size)
    | none => fun _ => none
  | _ => fun _ => none
/-- Each field's type is known. -/
def fieldsKnown (P : Program) (t : TypeId) : Bool := match P.underlying t with
  | some (.struct fs) => fs.toList.all fun q => (P.info? q.type).isSome
  | some (.array _ q) => (P.info? q).isSome
  | _ => false

theorem mapM_places {fs : List Field} (hk : ∀ q ∈ fs, (P.info? q.type).isSome = true) (w : World) : ∃ ps, (fs.mapM fun f => do pure (f.offset, ← sizeOf f.type) : Sem (List (Nat × Nat))).run P w = .ok ps w ∧
    ∀ i : Nat, ps[i]? = (fs[i]?).bind fun (q : Field) => (P.info? q.type).map fun (f : TypeInfo) => (q.offset, f.size) := by
  induction fs with
  | nil => exact ⟨[], by simp, by simp⟩
  | cons q r ih =>
    obtain ⟨ps, h1, h2⟩ := ih fun x hx => hk x (List.mem_cons_of_mem _ hx)
    obtain ⟨f, hf⟩ := Option.isSome_iff_exists.mp (hk q List.mem_cons_self)
    refine ⟨(q.offset, f.size) :: ps, ?_, fun i => ?_⟩
    · rw [List.mapM_cons]
      simp [sizeOf, typeInfo, hf] at h1 ⊢
      simp [h1]
    · cases i with
      | zero => simp [hf]
      | succ i => simpa using h2 i

theorem build_sound (S : Sim w0 B0 M0 N μ e h a w) {o : Go.Oper} {t : TypeId} {zs : List Zero} {parts : Array (Nat × Operand)} {ps : List (Nat × Nat × Arg)} (ho : o.op = .build t parts) (hz : zeroIs P t zs = true) (hkn : fieldsKnown P t = true)
    (hp : partsOk (placeOf P t) parts.toList ps = true) (hf : ∀ id, n ≤ id → id < n + countN zs → h id = none)
    (hx : opF prims e h n (.build zs ps) = some (v, objs)) : Comes1 P w0 B0 M0 N μ e h a w o n v objs := by
  simp only [opF] at hx
  split at hx
  · rename_i cs hcs
    cases hx
    obtain ⟨z, hrun, hzok⟩ := zeroIs_open hz
    -- the empty arrays, if there are any
    have hsim : ∃ μ', (∀ id o, h id = some o → μ' id = μ id) ∧ Sim w0 B0 M0 N μ' e (fnew h n (zeroO zs)) a w ∧
        (∀ {c u}, RC (Mut M0 μ h) w μ (shapes h) c u → RC (Mut M0 μ' (fnew h n (zeroO zs))) w μ' (shapes (fnew h n (zeroO zs))) c u) ∧
        All2 (RC (Mut M0 μ' (fnew h n (zeroO zs))) w μ' (shapes (fnew h n (zeroO zs)))) (zeroC n zs) z.cells.toList := by
      rw [zeroO_eq]
      cases hn : nilsOf zs with
      | nil =>
        rw [show nils [] = [] from rfl, fnew_nil]
        exact ⟨μ, fun _ _ _ => rfl, S, fun h => h, zeroC_all hzok (by rw [hn]; simp)⟩
      | cons p r =>
        have hcn : countN zs = r.length + 1 := by rw [← nilsOf_length, hn]; rfl
        obtain ⟨S', hμ, _⟩ := S.alloc (n := n) (o0 := .arr p.1 p.2 []) (v0 := .slice none 0 0) (zs := r) (w' := w) (fun id h1 h2 => hf id h1 (by omega)) (Below.refl _ _) (fun k hk => by cases hk)
          fun _ _ _ => ⟨by simp, [], World.ownsRow_nil _ _ _ _, trivial⟩
        have hfr : ∀ id, n ≤ id → id < n + (Obj.arr p.1 p.2 [] :: nils r).length → h id = none := fun id h1 h2 => hf id h1 (by simp [nils] at h2; omega)
        have hA : Agree μ (muNew μ n (.slice none 0 0) r.length) (shapes h) (shapes (fnew h n (.arr p.1 p.2 [] :: nils r))) := by
          intro id s hs
          simp only [shapes, Option.map_eq_some_iff] at hs
          obtain ⟨o, hi, rfl⟩ := hs
          exact ⟨by simp [shapes, fnew_old hfr hi], hμ id o hi⟩
        have hM : ∀ k, Mut M0 (muNew μ n (.slice none 0 0) r.length) (fnew h n (.arr p.1 p.2 [] :: nils r)) k → Mut M0 μ h k := by
          rintro k (h1 | ⟨id, o, h1, h2⟩)
          · exact .inl h1
          · rcases fnew_inv h1 with h3 | ⟨j, rfl, h3⟩
            · exact .inr ⟨id, o, h3, by rw [← hμ id o h3]; exact h2⟩
            · have hj := (List.getElem?_eq_some_iff.1 h3).1
              have : muNew μ n (.slice none 0 0) r.length (n + j) = .slice none 0 0 := by
                unfold muNew
                split
                · rfl
                · rw [if_pos ⟨by omega, by simp [nils] at hj; omega⟩]
              rw [this] at h2
              cases h2
        refine ⟨_, hμ, S', fun hc => hc.keep (Leaves.refl _ _) (fun k _ => hM k) hA, zeroC_all hzok fun j q hq => ?_⟩
        rw [hn] at hq
        have h1 : (Obj.arr p.1 p.2 [] :: nils r)[j]? = some (.arr q.1 q.2 []) := by
          cases j with
          | zero => simp at hq; subst hq; rfl
          | succ j => simp at hq; simp [nils, hq]
        have h2 := fnew_new (h := h) (n := n) h1
        have h3 := (List.getElem?_eq_some_iff.1 hq).1
        refine ⟨(congrArg (Option.map Obj.sh) h2 : _), ?_⟩
        unfold muNew
        split
        · rfl
        · rw [if_pos ⟨by omega, by simp at h3; omega⟩]
    obtain ⟨μ', hμ, S', hkeep, hzc⟩ := hsim
    obtain ⟨cells', h7, h8⟩ := fill_sound S hkeep hp hcs hzc
    refine ⟨.agg cells', w, μ', ?_, hμ, S', ⟨cells'.toList, h8, trivial, by simp [mkV]⟩⟩
    have hmap : (parts.map fun (p : Nat × Operand) => (p.1, a.eval p.2)).toList = parts.toList.map fun p => (p.1, a.eval p.2) := by simp
    unfold placeOf at h7
    unfold fieldsKnown at hkn
    cases hu : P.underlying t with
    | none => rw [hu] at hkn; cases hkn
    | some d =>
      rw [hu] at hkn h7
      cases d with
      | struct fs =>
        simp only [List.all_eq_true] at hkn
        obtain ⟨pl, hm, hget⟩ := mapM_places hkn w
        have hpl : (fun (i : Nat) => pl[i]?) = fun (i : Nat) => match (fs[i]? : Option Field) with
            | some q => match P.info? q.type with
              | some f => some (q.offset, f.size)
              | none => none
            | none => none := by
          funext i
          rw [hget i]
          cases hq : fs[i]? with
          | none => simp [hq]
          | some q => cases hi : P.info? q.type <;> simp [hq, hi]
        simp only [← hpl] at h7
        have hm' : (fs.mapM fun f => do pure (f.offset, ← sizeOf f.type) : Sem (Array (Nat × Nat))).run P w = .ok pl.toArray w := by
          rw [← Array.toArray_toList (xs := fs), List.mapM_toArray]
          simp only [Sem.run_map, hm]
          rfl
        simp only [bind_pure_comp] at hm'
        simp [execOp, ho, Instr.build, hrun, run_underlying hu, hm', h7]
      | array m q =>
        obtain ⟨f, hi⟩ := Option.isSome_iff_exists.mp hkn
        simp only [hi] at h7
        simp [execOp, ho, Instr.build, hrun, run_underlying hu, sizeOf, typeInfo, hi, h7]
      | _ => cases hkn
  · cases hx
end
end Go.Vi
namespace Go.Vi
open Go.RowKit
set_option linter.unusedVariables false
set_option linter.unusedSimpArgs false

section
variable {P : Program} {w0 : World} {B0 M0 : Nat → Prop} {N : Nat} {μ : Nat → Value} {e : EnvF} {h : HeapF} {a : Act} {w : World} {n : Nat} {v : V} {objs : List Obj}

theorem freezeL_sound {f : C → Option (D × List Nat)} {R : C → Value → Prop} {Q : D → Value → Prop} {ok : List Nat → Prop} (hok : ∀ x y, ok (x ++ y) → ok x ∧ ok y)
    (hf : ∀ c d is u, f c = some (d, is) → ok is → R c u → Q d u) : ∀ {cs : List C} {ds : List D} {is : List Nat} {us : List Value}, freezeL f cs = some (ds, is) → ok is → All2 R cs us → All2 Q ds us
  | [], ds, is, us, h, _, ha => by
    simp only [freezeL, Option.some.injEq, Prod.mk.injEq] at h
    obtain ⟨rfl, rfl⟩ := h
    match us, ha with
    | [], _ => trivial
  | c :: r, ds, is, u :: us, h, ho, ha => by
    simp only [freezeL] at h
    split at h
    · rename_i d i hd
      split at h
      · rename_i ds' is' hr
        cases h
        obtain ⟨o1, o2⟩ := hok _ _ ho
        exact ⟨hf _ _ _ _ hd o1 ha.1, freezeL_sound hok hf hr o2 ha.2⟩
      · cases h
    · cases h
  | _ :: _, _, _, [], _, _, ha => ha.elim
theorem freezeCaps_sound {f : C → Option (D × List Nat)} {R : Cap → Value → Prop} {Q : D → Value → Prop} {ok : List Nat → Prop} (hok : ∀ x y, ok (x ++ y) → ok x ∧ ok y)
    (hf : ∀ c d is u, freezeCap f c = some (d, is) → ok is → R c u → Q d u) : ∀ {cs : List Cap} {ds : List D} {is : List Nat} {us : List Value}, freezeCaps f cs = some (ds, is) → ok is → All2 R cs us → All2 Q ds us
  | [], ds, is, us, h, _, ha => by
    simp only [freezeCaps, Option.some.injEq, Prod.mk.injEq] at h
    obtain ⟨rfl, rfl⟩ := h
    match us, ha with
    | [], _ => trivial
  | c :: r, ds, is, u :: us, h, ho, ha => by
    simp only [freezeCaps] at h
    split at h
    · rename_i d i hd
      split at h
      · rename_i ds' is' hr
        cases h
        obtain ⟨o1, o2⟩ := hok _ _ ho
        exact ⟨hf _ _ _ _ hd o1 ha.1, freezeCaps_sound hok hf hr o2 ha.2⟩
      · cases h
    · cases h
  | _ :: _, _, _, [], _, _, ha => ha.elim
theorem freezeFirst_sound {f : C → Option (D × List Nat)} {R : Cap → Value → Prop} {Q : D → Value → Prop} {ok : List Nat → Prop} (hok : ∀ x y, ok (x ++ y) → ok x ∧ ok y)
    (hf : ∀ c d is u, freezeCap f c = some (d, is) → ok is → R c u → Q d u) : ∀ {cs : List (Bool × List Cap)} {ds : List (Bool × List D)} {is : List Nat} {us : List (List Value)}, freezeFirst f cs = some (ds, is) → ok is →
    All2 (fun p us => All2 R p.2 us ∧ okLen p.1 us.length) cs us → All2 (fun p us => All2 Q p.2 us ∧ okLen p.1 us.length) ds us ∧ ds.map Prod.fst = cs.map Prod.fst
  | [], ds, is, us, h, _, ha => by
    simp only [freezeFirst, Option.some.injEq, Prod.mk.injEq] at h
    obtain ⟨rfl, rfl⟩ := h
    match us, ha with
    | [], _ => exact ⟨trivial, rfl⟩
  | (b, c) :: r, ds, is, u :: us, h, ho, ha => by
    simp only [freezeFirst] at h
    split at h
    · rename_i d i hd
      split at h
      · rename_i ds' is' hr
        cases h
        obtain ⟨o1, o2⟩ := hok _ _ ho
        obtain ⟨h3, h4⟩ := freezeFirst_sound hok hf hr o2 ha.2
        exact ⟨⟨⟨freezeCaps_sound hok hf hd o1 ha.1.1, ha.1.2⟩, h3⟩, by simp [h4]⟩
      · cases h
    · cases h
  | _ :: _, _, _, [], _, _, ha => ha.elim

/-- Lists of values as a function's captured ones. -/
theorem RD.fn_list {M : Nat → Prop} {f : Nat} {first : List (Bool × List D)} {cap : List D} {fs : List (List Value)} {cs : List Value}
    (h1 : All2 (fun p us => All2 (RD M w) p.2 us ∧ okLen p.1 us.length) first fs) (h2 : All2 (RD M w) cap cs) :
    RD M w (.fn f first cap) (.func (.func f) ((first.zip fs).map fun p => mkV p.1.1 p.2).toArray cs.toArray) := by
  have key := RD.fn (M := M) (w := w) f first cap (fun i j => (fs.getD i []).getD j .nilFunc) (fun j => cs.getD j .nilFunc) ?_ ?_ ?_
  · have e1 : (first.zipIdx.map fun p => mkV p.1.1 ((List.range p.1.2.length).map fun j => (fs.getD p.2 []).getD j .nilFunc)) = (first.zip fs).map fun p => mkV p.1.1 p.2 := by
      apply List.ext_getElem?
      intro i
      have hl := h1.length
      cases hi : first[i]? with
      | none => simp [hi, List.getElem?_eq_none (List.getElem?_eq_none_iff.1 hi), List.getElem?_zip_eq_some, List.zip, List.getElem?_zipWith]
      | some p =>
        obtain ⟨us, hu, hus, _⟩ := h1.get i p hi
        have hx : (List.range p.2.length).map (fun j => us.getD j .nilFunc) = us := by
          apply List.ext_getElem?
          intro j
          rw [hus.length]
          by_cases hj : j < us.length
          · simp [hj, List.getD]
          · simp [hj, List.getElem?_eq_none (Nat.le_of_not_lt hj)]
        have : fs.getD i [] = us := by simp [List.getD, hu]
        simp only [List.getElem?_map, List.getElem?_zipIdx, hi, Option.map_some, Nat.zero_add, this, hx]
        simp [List.zip, List.getElem?_zipWith, hi, hu]
    have e2 : ((List.range cap.length).map fun j => cs.getD j .nilFunc) = cs := by
      apply List.ext_getElem?
      intro j
      rw [h2.length]
      by_cases hj : j < cs.length
      · simp [hj, List.getD]
      · simp [hj, List.getElem?_eq_none (Nat.le_of_not_lt hj)]
    rw [e1, e2] at key
    exact key
  · intro i b ds hi
    obtain ⟨us, hu, hus, hl⟩ := h1.get i _ hi
    rw [hus.length]
    exact hl
  · intro i b ds hi j d hd
    obtain ⟨us, hu, hus, _⟩ := h1.get i _ hi
    obtain ⟨x, hx, hr⟩ := hus.get j d hd
    have : fs.getD i [] = us := by simp [List.getD, hu]
    simp only [this]
    simpa [List.getD, hx] using hr
  · intro j d hd
    obtain ⟨x, hx, hr⟩ := h2.get j d hd
    simpa [List.getD, hx] using hr

theorem RD.row_own {M : Nat → Prop} {sz ty : Nat} {es : List (List D)} {u : Value} {xs : List Value} (hs : ∀ cs ∈ es, cs.length = sz) (ho : w.ownsRow 0 ty sz u es.length xs) (ha : All2 (RD M w) es.flatten xs)
    (hm : ∀ b, blkOf u = some b → ¬ M b) : RD M w (.row sz es) u := by
  rcases ho.2 with ⟨rfl, h0⟩ | ⟨g, cap, cur, rfl, _, hg, hc, _⟩
  · have : es = [] := List.eq_nil_of_length_eq_zero h0
    subst this
    exact .rowE _ _ _
  · have hcl := ho.cells (g := g) rfl
    refine .row sz es ⟨g, 0, none⟩ cap (fun j => xs.getD j .nilFunc) hs hc (Array.getElem?_eq_some_iff.1 hg).1 (hm g rfl) (fun j hj => ?_) (fun j d hd => ?_)
    · have hj' : j < xs.length := by rw [← ha.length]; exact hj
      simpa [List.getD, hj'] using hcl j xs[j] (List.getElem?_eq_getElem hj')
    · obtain ⟨x, hx, hr⟩ := ha.get j d hd
      simpa [List.getD, hx] using hr

theorem RD.ro_cells {M : Nat → Prop} {cs : List D} {i : Nat} {g : Nat} {us : List Value} {t : TypeId} {fr : Nat × Nat} {cur : Array Value} (hg : w.heap[g]? = some (.cells cur t fr)) (hu : cur.toList = us) (ha : All2 (RD M w) cs us) (hm : ¬ M g) :
    RD M w (.ro cs i) (.pointer (some ⟨g, i, none⟩)) := by
  have hadd : ∀ q, (⟨g, 0, none⟩ : Addr).add q = ⟨g, q, none⟩ := fun q => by unfold Addr.add; split <;> simp_all
  have := RD.ro (M := M) (w := w) cs i ⟨g, 0, none⟩ (fun j => us.getD j .nilFunc) (Array.getElem?_eq_some_iff.1 hg).1 hm (fun j hj => ?_) (fun j d hd => ?_)
  · rwa [hadd] at this
  · rw [hadd]
    have hj' : j < us.length := by rw [← ha.length]; exact hj
    subst hu
    have hj2 : j < cur.size := by simpa using hj'
    simp [World.cell?, hg, List.getD, hj2]
  · obtain ⟨x, hx, hr⟩ := ha.get j d hd
    simpa [List.getD, hx] using hr

/-- **What is frozen reads as it is told, whatever may turn but the objects that were met.** -/
theorem freeze_sound (S : Sim w0 B0 M0 N μ e h a w) {M : Nat → Prop} (hM : ∀ b, M b → Mut M0 μ h b) : ∀ (k : Nat) (c : C) (d : D) (is : List Nat) (u : Value), freezeC k h c = some (d, is) →
    (∀ id ∈ is, ∀ b, blkOf (μ id) = some b → ¬ M b) → RC (Mut M0 μ h) w μ (shapes h) c u → RD M w d u := by
  have hok : ∀ x y : List Nat, (∀ id ∈ x ++ y, ∀ b, blkOf (μ id) = some b → ¬ M b) → (∀ id ∈ x, ∀ b, blkOf (μ id) = some b → ¬ M b) ∧ (∀ id ∈ y, ∀ b, blkOf (μ id) = some b → ¬ M b) :=
    fun x y h => ⟨fun id hi => h id (List.mem_append_left _ hi), fun id hi => h id (List.mem_append_right _ hi)⟩
  have hd : ∀ {x : D} {u : Value}, RD (Mut M0 μ h) w x u → RD M w x u := fun hr => hr.step (Leaves.refl _ _) (fun b _ hb => hM b hb)
  intro k
  induction k with
  | zero =>
    intro c d is u hf ho hc
    cases c <;> simp only [freezeC, reduceCtorEq, Option.some.injEq, Prod.mk.injEq] at hf
    obtain ⟨rfl, rfl⟩ := hf
    exact hd hc
  | succ k ih =>
    intro c d is u hf ho hc
    have hcap : ∀ (c : Cap) (d : D) (is : List Nat) (u : Value), freezeCap (freezeC k h) c = some (d, is) → (∀ id ∈ is, ∀ b, blkOf (μ id) = some b → ¬ M b) → RCap (Mut M0 μ h) w μ (shapes h) c u → RD M w d u := by
      intro c d is u hf ho hc
      cases c with
      | d x =>
        simp only [freezeCap, Option.some.injEq, Prod.mk.injEq] at hf
        obtain ⟨rfl, rfl⟩ := hf
        exact hd hc
      | loc i o => exact ih (.loc i o) d is u hf ho hc
    cases c with
    | d x =>
      simp only [freezeC, Option.some.injEq, Prod.mk.injEq] at hf
      obtain ⟨rfl, rfl⟩ := hf
      exact hd hc
    | own id =>
      simp only [freezeC] at hf
      split at hf
      · rename_i ty sz es hh
        cases hf
        obtain ⟨_, rfl⟩ := hc
        obtain ⟨hs, xs, hown, hall⟩ := S.heap id _ hh
        exact RD.row_own hs hown (hall.mono fun _ _ => hd) (fun b hb => ho id (by simp) b hb)
      · cases hf
    | loc id off =>
      simp only [freezeC] at hf
      split at hf
      · rename_i cs hh
        split at hf
        · rename_i ds is' hds
          cases hf
          obtain ⟨_, g, hg, rfl⟩ := hc
          obtain ⟨g', t, us, hg', hhe, hall⟩ := S.heap id _ hh
          rw [hg] at hg'
          cases hg'
          exact RD.ro_cells hhe rfl (freezeL_sound hok ih hds (fun i hi => ho i (List.mem_cons_of_mem _ hi)) hall) (ho id (by simp) g (by simp [hg, blkOf]))
        · cases hf
      · cases hf
    | el id i off => simp [freezeC] at hf
    | dead => simp [freezeC] at hf
    | fn f first cap =>
      simp only [freezeC] at hf
      split at hf
      · rename_i x i y j hx hy
        cases hf
        obtain ⟨o1, o2⟩ := hok _ _ ho
        obtain ⟨fs, cs, h1, h2, rfl⟩ := hc
        obtain ⟨h3, h4⟩ := freezeFirst_sound hok hcap hx o1 h1
        have h5 := freezeCaps_sound hok hcap hy o2 h2
        have e1 : (first.zip fs).map (fun p => mkV p.1.1 p.2) = (x.zip fs).map (fun p => mkV p.1.1 p.2) := by
          have : ∀ (p : List (Bool × List Cap)) (q : List (Bool × List D)) (fs : List (List Value)), q.map Prod.fst = p.map Prod.fst → (p.zip fs).map (fun r => mkV r.1.1 r.2) = (q.zip fs).map (fun r => mkV r.1.1 r.2) := by
            intro p
            induction p with
            | nil => intro q fs hq; cases q <;> simp_all
            | cons p0 p ih =>
              intro q fs hq
              cases q with
              | nil => simp at hq
              | cons q0 q =>
                simp at hq
                cases fs with
                | nil => simp
                | cons f0 fs => simp [hq.1, ih q fs hq.2]
          exact this _ _ _ h4
        rw [e1]
        exact RD.fn_list h3 h5
      · cases hf
    | lmap id =>
      simp only [freezeC] at hf
      split at hf
      · rename_i sz es hh
        cases hf
        obtain ⟨r, ents, clock, h1, h2, h3⟩ := S.heap id _ hh
        obtain ⟨_, rfl⟩ := hc
        rw [h1]
        exact RD.map_shut (ho id (by simp) r (by rw [h1]; rfl)) h2 (h3.step fun _ _ hq => hq.step (Leaves.refl _ _) fun k _ hk => hM k hk)
      · cases hf

/-- The blocks that may turn while what is frozen is read: all but those that were met. -/
def MutBut (M0 : Nat → Prop) (μ : Nat → Value) (h : HeapF) (is : List Nat) : Nat → Prop := fun k => M0 k ∨ ∃ id o, id ∉ is ∧ h id = some o ∧ blkOf (μ id) = some k
theorem MutBut.sub {is : List Nat} {b : Nat} (hb : MutBut M0 μ h is b) : Mut M0 μ h b := by
  rcases hb with hb | ⟨id, o, _, h1, h2⟩
  · exact .inl hb
  · exact .inr ⟨id, o, h1, h2⟩
theorem MutBut.not (S : Sim w0 B0 M0 N μ e h a w) {is : List Nat} (hi : ∀ id ∈ is, h id ≠ none) : ∀ id ∈ is, ∀ b, blkOf (μ id) = some b → ¬ MutBut M0 μ h is b := by
  intro id hid b hb hm
  obtain ⟨o, ho⟩ := Option.ne_none_iff_exists'.1 (hi id hid)
  rcases hm with hm | ⟨id', o', h1, h2, h3⟩
  · exact (S.own id o b ho hb).2.2 hm
  · exact h1 (S.inj id' id o' o b h2 ho h3 hb ▸ hid)

theorem freezeL_ids {f : C → Option (D × List Nat)} (hf : ∀ c d is, f c = some (d, is) → ∀ id ∈ is, h id ≠ none) : ∀ {cs : List C} {ds : List D} {is : List Nat}, freezeL f cs = some (ds, is) → ∀ id ∈ is, h id ≠ none
  | [], ds, is, hx, id, hi => by
    simp only [freezeL, Option.some.injEq, Prod.mk.injEq] at hx
    obtain ⟨rfl, rfl⟩ := hx
    cases hi
  | c :: r, ds, is, hx, id, hi => by
    simp only [freezeL] at hx
    split at hx
    · rename_i d i hd
      split at hx
      · rename_i ds' is' hr
        cases hx
        rcases List.mem_append.1 hi with hi | hi
        · exact hf _ _ _ hd id hi
        · exact freezeL_ids hf hr id hi
      · cases hx
    · cases hx
theorem freezeCaps_ids {f : C → Option (D × List Nat)} (hf : ∀ c d is, f c = some (d, is) → ∀ id ∈ is, h id ≠ none) : ∀ {cs : List Cap} {ds : List D} {is : List Nat}, freezeCaps f cs = some (ds, is) → ∀ id ∈ is, h id ≠ none
  | [], ds, is, hx, id, hi => by
    simp only [freezeCaps, Option.some.injEq, Prod.mk.injEq] at hx
    obtain ⟨rfl, rfl⟩ := hx
    cases hi
  | c :: r, ds, is, hx, id, hi => by
    simp only [freezeCaps] at hx
    split at hx
    · rename_i d i hd
      split at hx
      · rename_i ds' is' hr
        cases hx
        rcases List.mem_append.1 hi with hi | hi
        · cases c with
          | d x =>
            simp only [freezeCap, Option.some.injEq, Prod.mk.injEq] at hd
            obtain ⟨_, rfl⟩ := hd
            cases hi
          | loc p q => exact hf _ _ _ hd id hi
        · exact freezeCaps_ids hf hr id hi
      · cases hx
    · cases hx
theorem freezeFirst_ids {f : C → Option (D × List Nat)} (hf : ∀ c d is, f c = some (d, is) → ∀ id ∈ is, h id ≠ none) : ∀ {cs : List (Bool × List Cap)} {ds : List (Bool × List D)} {is : List Nat}, freezeFirst f cs = some (ds, is) → ∀ id ∈ is, h id ≠ none
  | [], ds, is, hx, id, hi => by
    simp only [freezeFirst, Option.some.injEq, Prod.mk.injEq] at hx
    obtain ⟨rfl, rfl⟩ := hx
    cases hi
  | (b, c) :: r, ds, is, hx, id, hi => by
    simp only [freezeFirst] at hx
    split at hx
    · rename_i d i hd
      split at hx
      · rename_i ds' is' hr
        cases hx
        rcases List.mem_append.1 hi with hi | hi
        · exact freezeCaps_ids hf hd id hi
        · exact freezeFirst_ids hf hr id hi
      · cases hx
    · cases hx
theorem freezeC_ids : ∀ (k : Nat) (c : C) (d : D) (is : List Nat), freezeC k h c = some (d, is) → ∀ id ∈ is, h id ≠ none := by
  intro k
  induction k with
  | zero =>
    intro c d is hf id hi
    cases c <;> simp only [freezeC, reduceCtorEq, Option.some.injEq, Prod.mk.injEq] at hf
    obtain ⟨rfl, rfl⟩ := hf
    cases hi
  | succ k ih =>
    intro c d is hf id hi
    cases c with
    | d x =>
      simp only [freezeC, Option.some.injEq, Prod.mk.injEq] at hf
      obtain ⟨rfl, rfl⟩ := hf
      cases hi
    | own i =>
      simp only [freezeC] at hf
      split at hf
      · rename_i hh
        cases hf
        simp at hi
        subst hi
        rw [hh]
        simp
      · cases hf
    | loc i off =>
      simp only [freezeC] at hf
      split at hf
      · rename_i cs hh
        split at hf
        · rename_i ds is' hds
          cases hf
          rcases List.mem_cons.1 hi with rfl | hi
          · rw [hh]; simp
          · exact freezeL_ids ih hds id hi
        · cases hf
      · cases hf
    | el i j off => simp [freezeC] at hf
    | dead => simp [freezeC] at hf
    | fn f first cap =>
      simp only [freezeC] at hf
      split at hf
      · rename_i x i y j hx hy
        cases hf
        rcases List.mem_append.1 hi with hi | hi
        · exact freezeFirst_ids ih hx id hi
        · exact freezeCaps_ids ih hy id hi
      · cases hf
    | lmap i =>
      simp only [freezeC] at hf
      split at hf
      · rename_i hh
        cases hf
        simp at hi
        subst hi
        rw [hh]
        simp
      · cases hf

theorem freezeV_sound (S : Sim w0 B0 M0 N μ e h a w) {M : Nat → Prop} (hM : ∀ b, M b → Mut M0 μ h b) {x : V} {d : DV} {is : List Nat} {u : Value} (hf : freezeV h x = some (d, is))
    (ho : ∀ id ∈ is, ∀ b, blkOf (μ id) = some b → ¬ M b) (hc : RV (Mut M0 μ h) w μ (shapes h) x u) : RDV M w d u := by
  unfold freezeV at hf
  split at hf
  · split at hf
    · rename_i ds is' hds
      cases hf
      obtain ⟨us, h1, h2, rfl⟩ := hc
      refine ⟨us, freezeL_sound (ok := fun is => ∀ id ∈ is, ∀ b, blkOf (μ id) = some b → ¬ M b) (fun x y h => ⟨fun id hi => h id (List.mem_append_left _ hi), fun id hi => h id (List.mem_append_right _ hi)⟩)
        (freeze_sound S hM depth) hds ho h1, h2, rfl⟩
    · cases hf
  · cases hf
theorem freezeV_ids {x : V} {d : DV} {is : List Nat} (hf : freezeV h x = some (d, is)) : ∀ id ∈ is, h id ≠ none := by
  unfold freezeV at hf
  split at hf
  · split at hf
    · rename_i ds is' hds
      cases hf
      exact freezeL_ids (freezeC_ids depth) hds
    · cases hf
  · cases hf
end
end Go.Vi
namespace Go.Vi
open Go.RowKit
set_option linter.unusedVariables false
set_option linter.unusedSimpArgs false

section
variable {P : Program} {w0 : World} {B0 M0 : Nat → Prop} {N : Nat} {μ : Nat → Value} {e : EnvF} {h : HeapF} {a : Act} {w : World} {n : Nat} {v : V} {objs : List Obj}

/-- Parts number 0, 1, .. of a slice literal. -/
def rowPartsOk : List (Nat × Operand) → List Arg → Nat → Bool
  | [], [], _ => true
  | (i, x) :: r, y :: q, k => i == k && argOk x y && rowPartsOk r q (k + 1)
  | _, _, _ => false

theorem rowOf_sound (S : Sim w0 B0 M0 N μ e h a w) {sz : Nat} : ∀ {parts : List (Nat × Operand)} {ys : List Arg} {k : Nat} {es : List (List D)}, rowPartsOk parts ys k = true → rowOf e h sz ys = some (es, []) →
    All2 (RD (Mut M0 μ h) w) es.flatten (parts.map fun p => (a.eval p.2).cells.toList).flatten ∧ (∀ cs ∈ es, cs.length = sz) ∧ es.length = parts.length ∧ (∀ p ∈ parts, (a.eval p.2).cells.size = sz) ∧
    parts = ((parts.map Prod.snd).zipIdx k).map fun p => (p.2, p.1)
  | [], [], k, es, _, hr => by
    simp only [rowOf, Option.some.injEq, Prod.mk.injEq] at hr
    obtain ⟨rfl, _⟩ := hr
    exact ⟨trivial, by simp, rfl, by simp, rfl⟩
  | (i, x) :: r, y :: q, k, es, hp, hr => by
    simp only [rowPartsOk, Bool.and_eq_true, beq_iff_eq] at hp
    obtain ⟨⟨rfl, h2⟩, h3⟩ := hp
    simp only [rowOf] at hr
    split at hr
    · rename_i u hu
      split at hr
      · rename_i b ds i' hfz
        split at hr
        · rename_i hl
          have hl := Nat.eq_of_beq_eq_true hl
          split at hr
          · rename_i es' is' hr'
            simp only [Option.some.injEq, Prod.mk.injEq, List.append_eq_nil_iff] at hr
            obtain ⟨rfl, rfl, rfl⟩ := hr
            obtain ⟨h4, h5, h6, h7, h8⟩ := rowOf_sound S h3 hr'
            have hrv := S.arg h2 hu
            obtain ⟨us, h9, h10, h11⟩ := freezeV_sound S (M := Mut M0 μ h) (fun _ hb => hb) hfz (by simp) hrv
            have hcells : (a.eval x).cells.toList = us := by
              rw [h11]
              cases b with
              | true => simp [mkV, Value.cells]
              | false =>
                match us, h10 with
                | [u], _ =>
                  match ds, h9 with
                  | [d], h9 => simp [mkV, cells_one (RD.one h9.1)]
            refine ⟨?_, ?_, by simp [h6], ?_, ?_⟩
            · rw [List.flatten_cons, List.map_cons, List.flatten_cons]
              exact All2.append (by rw [hcells]; exact h9) h4
            · intro cs hcs
              rcases List.mem_cons.1 hcs with rfl | hcs
              · exact hl
              · exact h5 cs hcs
            · intro p hp
              rcases List.mem_cons.1 hp with rfl | hp
              · rw [← Array.length_toList, hcells, ← h9.length, hl]
              · exact h7 p hp
            · simp only [List.map_cons, List.zipIdx_cons]
              rw [← h8]
          · cases hr
        · cases hr
      · cases hr
    · cases hr
  | [], _ :: _, _, _, hp, _ => by simp [rowPartsOk] at hp
  | _ :: _, [], _, _, hp, _ => by simp [rowPartsOk] at hp

theorem fill_row {sz : Nat} : ∀ (vs : List Value) (k : Nat) (cells : Array Value), (∀ v ∈ vs, v.cells.size = sz) → (k + vs.length) * sz ≤ cells.size →
    ∃ cells', Instr.fill (fun i => some (i * sz, sz)) cells ((vs.zipIdx k).map fun p => (p.2, p.1)) = some cells' ∧
      cells'.toList = cells.toList.take (k * sz) ++ (vs.map fun v => v.cells.toList).flatten ++ cells.toList.drop ((k + vs.length) * sz)
  | [], k, cells, _, _ => ⟨cells, rfl, by simp⟩
  | v :: vs, k, cells, hv, hl => by
    have h1 := hv v List.mem_cons_self
    have hfit : k * sz + v.cells.size ≤ cells.size := by
      rw [h1]
      have : (k + 1) * sz ≤ (k + (v :: vs).length) * sz := Nat.mul_le_mul_right _ (by simp)
      rw [Nat.succ_mul] at this
      omega
    have hput := fill_cells (cells := cells) (vs := v.cells) (off := k * sz) hfit
    have hsz : (v.cells.zipIdx.foldl (fun (cs : Array Value) (p : Value × Nat) => cs.setIfInBounds (k * sz + p.2) p.1) cells).size = cells.size := by
      rw [← Array.length_toList, hput]
      simp
      omega
    obtain ⟨cells', h2, h3⟩ := fill_row vs (k + 1) _ (fun x hx => hv x (List.mem_cons_of_mem _ hx)) (by rw [hsz]; simp at hl; rw [show k + 1 + vs.length = k + (vs.length + 1) by omega]; exact hl)
    refine ⟨cells', ?_, ?_⟩
    · simp only [List.zipIdx_cons, List.map_cons, Instr.fill]
      have hz : (v.cells.size ≠ sz || k * sz + v.cells.size > cells.size) = false := by simp [h1]; omega
      simp only [hz]
      exact h2
    · rw [h3, hput]
      have e1 : (k + 1) * sz = k * sz + sz := Nat.succ_mul _ _
      have e2 : (cells.toList.take (k * sz)).length = k * sz := by simp; omega
      simp only [List.map_cons, List.flatten_cons]
      rw [e1]
      have e3 : (cells.toList.take (k * sz) ++ v.cells.toList ++ cells.toList.drop (k * sz + v.cells.size)).take (k * sz + sz) = cells.toList.take (k * sz) ++ v.cells.toList := by
        rw [List.take_append_of_le_length (by simp; omega), List.take_of_length_le (by simp; omega)]
      have e4 : (cells.toList.take (k * sz) ++ v.cells.toList ++ cells.toList.drop (k * sz + v.cells.size)).drop ((k + 1 + vs.length) * sz) = cells.toList.drop ((k + (v :: vs).length) * sz) := by
        have e5 : (k + 1 + vs.length) * sz = k * sz + sz + vs.length * sz := by rw [Nat.add_mul, Nat.succ_mul]
        have e6 : (k + (v :: vs).length) * sz = k * sz + sz + vs.length * sz := by rw [List.length_cons, Nat.add_mul, Nat.succ_mul]; omega
        rw [e5, e6, List.drop_append]
        have e7 : (cells.toList.take (k * sz) ++ v.cells.toList).length = k * sz + sz := by simp; omega
        rw [List.drop_eq_nil_of_le (by rw [e7]; omega), e7, List.drop_drop, h1, List.nil_append]
        congr 1
        omega
      rw [e3, e4]
      simp

theorem run_buildSlice (S : Sim w0 B0 M0 N μ e h a w) {t e' sz : Nat} {parts : Array (Nat × Operand)} {ys : List Arg} {es : List (List D)} (ht : sliceIs P t e' sz = true) (hz : (P.info? e').bind (·.zero) ≠ none) (hbig : parts.size * sz ≤ 2 ^ 24)
    (hp : rowPartsOk parts.toList ys 0 = true) (hr : rowOf e h sz ys = some (es, [])) :
    ∃ cells : Array Value, (Instr.buildSlice t parts.size (parts.map fun p => (p.1, a.eval p.2))).run P w = .ok (.slice (some ⟨w.heap.size, 0, none⟩) es.length es.length) (w.alloc (.cells cells e')) ∧
      All2 (RD (Mut M0 μ h) w) es.flatten cells.toList ∧ (∀ cs ∈ es, cs.length = sz) := by
  obtain ⟨hu, hs⟩ := sliceIs_open ht
  obtain ⟨h1, h2, h3, h4, h5⟩ := rowOf_sound S hp hr
  obtain ⟨z, hz⟩ := Option.ne_none_iff_exists'.1 hz
  obtain ⟨i, hi, hiz⟩ := Option.bind_eq_some_iff.1 hz
  have hlen : parts.size = es.length := by rw [h3, Array.length_toList]
  have key : ∀ zero : Nat → Value, ∃ cells', Instr.fill (fun i => some (i * sz, sz)) ((Array.range (parts.size * sz)).map zero) (parts.toList.map fun p => (p.1, a.eval p.2)) = some cells' ∧ All2 (RD (Mut M0 μ h) w) es.flatten cells'.toList := by
    intro zero
    obtain ⟨cells', h6, h7⟩ := fill_row (sz := sz) (parts.toList.map fun p => a.eval p.2) 0 ((Array.range (parts.size * sz)).map zero) (fun v hv => by
        obtain ⟨p, hp, rfl⟩ := List.mem_map.1 hv
        exact h4 p hp) (by simp)
    refine ⟨cells', ?_, ?_⟩
    · rw [← h6]
      congr 1
      conv => lhs; rw [h5]
      rw [List.map_map, List.zipIdx_map, List.map_map, List.zipIdx_map, List.map_map]
      rfl
    · rw [h7]
      simp only [Nat.zero_mul, List.take_zero, List.nil_append, Nat.zero_add, List.length_map, Array.length_toList]
      rw [List.drop_eq_nil_of_le (by simp), List.append_nil, List.map_map]
      exact h1
  have hnb : ¬ (parts.size * sz > 2 ^ 24) := by omega
  by_cases h0 : parts.size * sz = 0
  · obtain ⟨cells', h6, h7⟩ := key fun _ => default
    refine ⟨cells', ?_, h7, h2⟩
    rw [h0] at h6
    rw [← hlen]
    simp [Instr.buildSlice, run_underlying hu, sizeIs_run hs, h0]
    simp [h6, run_newRow]
  · obtain ⟨cells', h6, h7⟩ := key fun x => z.cells[x % z.cells.size]!
    refine ⟨cells', ?_, h7, h2⟩
    rw [← hlen]
    simp [Instr.buildSlice, run_underlying hu, sizeIs_run hs, h0, hnb, zeroValue, typeInfo, hi, hiz]
    simp [h6, run_newRow]
end
end Go.Vi
namespace Go.Vi
open Go.RowKit
set_option linter.unusedVariables false
set_option linter.unusedSimpArgs false

section
variable {P : Program} {w0 : World} {B0 M0 : Nat → Prop} {N : Nat} {μ : Nat → Value} {e : EnvF} {h : HeapF} {a : Act} {w : World} {n : Nat} {v : V} {objs : List Obj}

theorem Sim.mut_lt (S : Sim w0 B0 M0 N μ e h a w) {k : Nat} (hk : Mut M0 μ h k) : k < w.heap.size := by
  rcases hk with hk | ⟨id, o, h1, h2⟩
  · exact Nat.lt_of_lt_of_le (S.old k hk) S.size
  · exact (S.own id o k h1 h2).2.1

theorem ownsRow_whole {w : World} {e sz n : Nat} {cells : Array Value} (hs : cells.size = n * sz) (hn : n ≤ maxLen) : (w.alloc (.cells cells e)).ownsRow 0 e sz (.slice (some ⟨w.heap.size, 0, none⟩) n n) n cells.toList :=
  ⟨by simpa using hs, .inr ⟨w.heap.size, n, cells, rfl, Nat.zero_le _, heap_alloc_new w _, Nat.le_refl _, hn, hs, by rw [← hs, ← Array.length_toList, List.take_length]⟩⟩

def rowIs (P : Program) (t e sz : Nat) (k : Nat) : Bool := sliceIs P t e sz && (match (P.info? e).bind (·.zero) with
  | some _ => true
  | none => false) && decide (k * sz ≤ 2 ^ 24) && decide (k ≤ 2 ^ 24)

theorem buildSlice_sound (S : Sim w0 B0 M0 N μ e h a w) {o : Go.Oper} {t e' sz : Nat} {parts : Array (Nat × Operand)} {ys : List Arg} (ho : o.op = .buildSlice t parts.size parts) (ht : rowIs P t e' sz parts.size = true)
    (hp : rowPartsOk parts.toList ys 0 = true) (hx : opF prims e h n (.buildSlice e' sz ys) = some (v, objs)) : Comes1 P w0 B0 M0 N μ e h a w o n v objs := by
  simp only [rowIs, Bool.and_eq_true, decide_eq_true_eq] at ht
  obtain ⟨⟨⟨h1, h2⟩, h3⟩, h4⟩ := ht
  simp only [opF] at hx
  split at hx
  · rename_i es hes
    cases hx
    obtain ⟨cells, hrun, hall, hs⟩ := run_buildSlice S h1 (by intro h; rw [h] at h2; cases h2) h3 hp hes
    have hb := below_alloc w (.cells cells e')
    have hlen := hall.length
    rw [flatten_len hs, Array.length_toList (xs := cells)] at hlen
    have hle : es.length ≤ maxLen := by
      have := (rowOf_sound S hp hes).2.2.1
      rw [Array.length_toList (xs := parts)] at this
      simp only [maxLen]
      omega
    exact .data S hb (by simp [execOp, ho, hrun]) (RD.row_own hs (ownsRow_whole hlen.symm hle) (hall.mono fun _ _ hr => hr.step (Leaves.of_below hb) fun _ _ h => h) (fun b hb hm => by
      simp [blkOf] at hb
      subst hb
      exact absurd (S.mut_lt hm) (Nat.lt_irrefl _)))
  · cases hx

theorem buildArr_sound (S : Sim w0 B0 M0 N μ e h a w) {o : Go.Oper} {t e' sz : Nat} {parts : Array (Nat × Operand)} {ys : List Arg} (ho : o.op = .buildSlice t parts.size parts) (ht : rowIs P t e' sz parts.size = true)
    (hp : rowPartsOk parts.toList ys 0 = true) (hf : ∀ id, n ≤ id → id < n + 1 → h id = none) (hx : opF prims e h n (.buildArr e' sz ys) = some (v, objs)) : Comes1 P w0 B0 M0 N μ e h a w o n v objs := by
  simp only [rowIs, Bool.and_eq_true, decide_eq_true_eq] at ht
  obtain ⟨⟨⟨h1, h2⟩, h3⟩, h4⟩ := ht
  simp only [opF] at hx
  split at hx
  · rename_i es hes
    cases hx
    obtain ⟨cells, hrun, hall, hs⟩ := run_buildSlice S h1 (by intro h; rw [h] at h2; cases h2) h3 hp hes
    have hb := below_alloc w (.cells cells e')
    have hlen := hall.length
    rw [flatten_len hs, Array.length_toList (xs := cells)] at hlen
    have hle : es.length ≤ maxLen := by
      have := (rowOf_sound S hp hes).2.2.1
      rw [Array.length_toList (xs := parts)] at this
      simp only [maxLen]
      omega
    obtain ⟨S', hμ, hn⟩ := S.alloc (n := n) (o0 := .arr e' sz es) (v0 := .slice (some ⟨w.heap.size, 0, none⟩) es.length es.length) (zs := []) (fun id h1 h2 => hf id h1 (by simp at h2; omega)) hb
      (fun k hk => by simp [blkOf] at hk; subst hk; simp) fun hM hA _ => ⟨hs, cells.toList, ownsRow_whole hlen.symm hle, hall.mono fun _ _ hr => hr.step (Leaves.of_below hb) hM⟩
    exact ⟨.slice (some ⟨w.heap.size, 0, none⟩) es.length es.length, w.alloc (.cells cells e'), _, by simp [execOp, ho, hrun], hμ, S', RV_cell.2 ⟨⟨sz, es.length, (congrArg (Option.map Obj.sh) hn : _)⟩, by simp [muNew]⟩⟩
  · cases hx

theorem makeSlice_sound (S : Sim w0 B0 M0 N μ e h a w) {o : Go.Oper} {t e' sz bytes : Nat} {zs : List D} {x y : Operand} {x' : Arg} {i : TypeInfo} {z : Value} (ho : o.op = .makeSlice t x y) (ht : P.underlying t = some (.slice e')) (hi : P.info? e' = some i)
    (hz : i.zero = some z) (hsz : i.size = sz) (hby : i.bytes = bytes) (hzz : zeroOk z.cells.toList (zs.map Zero.d) = true) (h2 : argOk x x' = true) (h3 : argOk y x' = true)
    (hf : ∀ id, n ≤ id → id < n + 1 → h id = none) (hx : opF prims e h n (.makeSlice e' sz bytes zs x') = some (v, objs)) : Comes1 P w0 B0 M0 N μ e h a w o n v objs := by
  simp only [opF] at hx
  split at hx
  · rename_i k hk
    split at hx
    · rename_i hl
      have hl := Nat.eq_of_beq_eq_true hl
      split at hx
      · rename_i es hes
        cases hx
        simp only [prims] at hes
        split at hes
        · rename_i hc
          cases hes
          obtain ⟨c, rfl⟩ := Int.eq_ofNat_of_zero_le hc.1
          have e1 := S.intK h2 hk
          have e2 := S.intK h3 hk
          have hzc : All2 (RD (Mut M0 μ h) w) zs z.cells.toList := by
            have h4 := zeroC_all (M := Mut M0 μ h) (w := w) (μ := μ) (s := fun _ => none) (m := 0) hzz (by
              have : ∀ l : List D, nilsOf (l.map Zero.d) = [] := fun l => by induction l <;> simp_all [nilsOf]
              rw [this]; simp)
            have : ∀ l : List D, zeroC 0 (l.map Zero.d) = l.map C.d := fun l => by induction l <;> simp_all [zeroC]
            rw [this] at h4
            exact (All2.map_left C.d).1 h4
          have hzl : z.cells.size = sz := by rw [← Array.length_toList, ← hzc.length, hl]
          subst hby
          obtain ⟨w', hrun, hown, hg⟩ := run_make_full (P := P) w 0 t e' i z sz ht hi hz hsz .i64 .i64 c (by
            have h5 := hc.2.2
            rw [← Int.natCast_mul] at h5
            omega) (by simp only [maxLen]; omega) (Nat.zero_le _)
          have hb : Below w.heap.size w w' := ⟨hg.os, hg.tape, hg.output, hg.size, fun k hk => hg.block k hk (by simp)⟩
          have hs : ∀ cs ∈ List.replicate c zs, cs.length = sz := fun cs hcs => by rw [List.eq_of_mem_replicate hcs, hl]
          have hall : All2 (RD (Mut M0 μ h) w) (List.replicate c zs).flatten (madeCells z.cells (c * sz)).toList := by
            have hml : ((madeCells z.cells (c * sz)).toList).length = c * sz := by simp [size_madeCells]
            refine All2.of_get (by rw [hml, flatten_len hs, List.length_replicate]) fun j d u hd hu => ?_
            have hj : j < c * sz := by rw [← hml]; exact (List.getElem?_eq_some_iff.1 hu).1
            have hs0 : 0 < sz := by
              rcases Nat.eq_zero_or_pos sz with h0 | h0
              · subst h0; simp at hj
              · exact h0
            have hq : j / sz < c := by rw [Nat.div_lt_iff_lt_mul hs0]; exact hj
            have e3 := flatten_get hs (show (List.replicate c zs)[j / sz]? = some zs by simp [hq]) (j % sz) (Nat.mod_lt _ hs0)
            rw [show j / sz * sz + j % sz = j by rw [Nat.mul_comm]; exact Nat.div_add_mod _ _] at e3
            rw [e3] at hd
            obtain ⟨y, hy, hr⟩ := hzc.get _ _ hd
            have : u = y := by
              have hlt : j % sz < z.cells.size := by rw [hzl]; exact Nat.mod_lt _ hs0
              simp only [madeCells, Array.toList_map, Array.toList_range, List.getElem?_map, List.getElem?_range hj, Option.map_some, Option.some.injEq, hzl] at hu
              rw [← hu]
              rw [Array.getElem?_toList] at hy
              rw [getElem!_def, hy]
            subst this
            exact hr
          have hge : w.heap.size < w'.heap.size := by
            rcases hown.2 with ⟨h4, _⟩ | ⟨g, cap, cur, h4, _, h5, _⟩
            · cases h4
            · cases h4
              exact (Array.getElem?_eq_some_iff.1 h5).1
          obtain ⟨S', hμ, hn⟩ := S.alloc (n := n) (o0 := .arr e' sz (List.replicate c zs)) (v0 := .slice (some ⟨w.heap.size, 0, none⟩) c c) (zs := []) (fun id h1 h2 => hf id h1 (by simp at h2; omega)) hb
            (fun k hk => by simp [blkOf] at hk; subst hk; exact ⟨Nat.le_refl _, hge⟩) fun hM hA _ => ⟨hs, _, by rw [List.length_replicate]; exact hown, hall.mono fun _ _ hr => hr.step (Leaves.of_below hb) hM⟩
          exact ⟨.slice (some ⟨w.heap.size, 0, none⟩) c c, w', _, by simp [execOp, ho, e1, e2, hrun], hμ, S', RV_cell.2 ⟨⟨sz, _, (congrArg (Option.map Obj.sh) hn : _)⟩, by simp [muNew]⟩⟩
        · cases hes
      · cases hx
    · cases hx
  · cases hx
end
end Go.Vi
namespace Go.Vi
open Go.RowKit
set_option linter.unusedVariables false
set_option linter.unusedSimpArgs false

section
variable {P : Program} {w0 : World} {B0 M0 : Nat → Prop} {N : Nat} {μ : Nat → Value} {e : EnvF} {h : HeapF} {a : Act} {w : World} {n : Nat} {v : V} {objs : List Obj}

def kindT (P : Program) (t : TypeId) (k : Nat) : Bool := match P.underlying t with
  | some (.int _) => k == 0
  | some .string => k == 1
  | some .bool => k == 2
  | _ => false
def flatOk (P : Program) : List Field → List Nat → Nat → Bool
  | [], [], _ => true
  | f :: r, q :: ks, k => f.name != "_" && f.offset == k && kindT P f.type q && flatOk P r ks (k + 1)
  | _, _, _ => false
def flatEq (P : Program) (t : TypeId) (ks : List Nat) : Bool := match P.underlying t with
  | some (.struct fs) => flatOk P fs.toList ks 0 && !P.stoodInHeld t && !P.eqGuardType P.depth t
  | _ => false

theorem kindT_open {t : TypeId} {k : Nat} (hk : kindT P t k = true) : (k = 0 ∧ ∃ q, P.underlying t = some (.int q)) ∨ (k = 1 ∧ P.underlying t = some .string) ∨ (k = 2 ∧ P.underlying t = some .bool) := by
  unfold kindT at hk
  split at hk
  · rename_i q hq
    exact .inl ⟨by simpa using hk, q, hq⟩
  · rename_i hq
    exact .inr (.inl ⟨by simpa using hk, hq⟩)
  · rename_i hq
    exact .inr (.inr ⟨by simpa using hk, hq⟩)
  · cases hk

theorem bytes_beq (p q : ByteArray) : (p == q) = (p.toList == q.toList) := by
  show (p.data == q.data) = _
  rw [ByteArray.toList_eq, ByteArray.toList_eq, Bool.eq_iff_iff, beq_iff_eq, beq_iff_eq]
  exact Array.toList_inj.symm

theorem equal_scalar {t : TypeId} {x y : C} {u v : Value} {b : Bool} {kd : Nat} {M : Nat → Prop} {s : Nat → Option Sh} (ht : kindT P t kd = true) (hb : prims.eqC kd x y = some b) (hx : RC M w μ s x u) (hy : RC M w μ s y v) (d : Nat) (w' : World) :
    (Go.Op.equalIn (d + 1) t u v).run P w' = .ok b w' := by
  have hk := kindT_open ht
  unfold Prim.eqC at hb
  split at hb
  · rename_i k p q r
    split at hb
    · rename_i hkk
      have := ikN_inj (Nat.eq_of_beq_eq_true hkk)
      subst this
      cases hb
      obtain ⟨_, z, hz⟩ | ⟨h1, _⟩ | ⟨h1, _⟩ := hk
      · have h1 := RD.int_eq (show RD M w _ u from hx)
        have h2 := RD.int_eq (show RD M w _ v from hy)
        subst h1 h2
        simp [Go.Op.equalIn, run_underlying hz, prims]
      · cases h1
      · cases h1
    · cases hb
  · rename_i p q
    cases hb
    obtain ⟨h1, _⟩ | ⟨_, hz⟩ | ⟨h1, _⟩ := hk
    · cases h1
    · have h1 := RD.str_eq (show RD M w _ u from hx)
      have h2 := RD.str_eq (show RD M w _ v from hy)
      subst h1 h2
      simp [Go.Op.equalIn, run_underlying hz, prims, bytes_beq]
    · cases h1
  · rename_i p q
    cases hb
    obtain ⟨h1, _⟩ | ⟨h1, _⟩ | ⟨_, hz⟩ := hk
    · cases h1
    · cases h1
    · have h1 := RD.bool_eq (show RD M w _ u from hx)
      have h2 := RD.bool_eq (show RD M w _ v from hy)
      subst h1 h2
      simp [Go.Op.equalIn, run_underlying hz]
  · cases hb

theorem run_part_one {t : TypeId} {k kd : Nat} {us : Array Value} {u : Value} (ht : kindT P t kd = true) (hu : us[k]? = some u) (w : World) : (part t us k).run P w = .ok u w := by
  have : ∃ d, P.underlying t = some d ∧ (match d with | .struct _ | .array _ _ => true | _ => false) = false := by
    rcases kindT_open ht with ⟨_, q, hq⟩ | ⟨_, hq⟩ | ⟨_, hq⟩ <;> exact ⟨_, hq, rfl⟩
  obtain ⟨d, hd, hf⟩ := this
  have hagg : (isAgg t).run P w = .ok false w := by
    cases d <;> simp_all [isAgg, underlying]
  simp [part, hagg, hu]

theorem forIn_fields {M : Nat → Prop} {s : Nat → Option Sh} {xs ys : Array Value} (d : Nat) (w' : World) : ∀ (l : List Field) (ks : List Nat) (k : Nat) (cs ds : List C) (b : Bool), flatOk P l ks k = true → prims.eqL ks cs ds = some b →
    (∀ j c, cs[j]? = some c → ∃ u, xs[k + j]? = some u ∧ RC M w μ s c u) → (∀ j c, ds[j]? = some c → ∃ u, ys[k + j]? = some u ∧ RC M w μ s c u) →
    (forIn l ((none : Option Bool), ()) (fun f __s => if f.name = "_" then pure (ForInStep.yield (none, ())) else do
        let p ← part f.type xs f.offset
        let q ← part f.type ys f.offset
        let r ← Go.Op.equalIn (d + 1) f.type p q
        if r = false then pure (ForInStep.done (some false, ())) else pure (ForInStep.yield (none, ()))) : Sem (Option Bool × Unit)).run P w' = .ok (if b then (none, ()) else (some false, ())) w'
  | [], ks, k, cs, ds, b, hl, hb, _, _ => by
    match ks, hl with
    | [], _ =>
      match cs, ds, hb with
      | [], [], hb =>
        simp only [Prim.eqL, Option.some.injEq] at hb
        subst hb
        simp
  | f :: l, ks, k, cs, ds, b, hl, hb, hc, hd => by
    match ks, hl with
    | q :: ks, hl =>
      simp only [flatOk, Bool.and_eq_true, bne_iff_ne, ne_eq, beq_iff_eq] at hl
      obtain ⟨⟨⟨h1, h2⟩, h3⟩, h4⟩ := hl
      match cs, ds, hb with
      | c :: cs, e :: ds, hb =>
        simp only [Prim.eqL] at hb
        split at hb
        · rename_i b1 hb1
          split at hb
          · rename_i b2 hb2
            cases hb
            obtain ⟨u, hu, hru⟩ := hc 0 c rfl
            obtain ⟨v, hv, hrv⟩ := hd 0 e rfl
            have ih := forIn_fields (M := M) (s := s) (xs := xs) (ys := ys) d w' l ks (k + 1) cs ds b2 h4 hb2 (fun j c hj => by rw [show k + 1 + j = k + (j + 1) by omega]; exact hc (j + 1) c (by simpa using hj))
              (fun j c hj => by rw [show k + 1 + j = k + (j + 1) by omega]; exact hd (j + 1) c (by simpa using hj))
            rw [List.forIn_cons]
            simp only [h1, if_false, h2]
            have e1 := run_part_one h3 hu w'
            have e2 := run_part_one h3 hv w'
            have e3 := equal_scalar h3 hb1 hru hrv d w'
            simp only [Nat.add_zero] at e1 e2
            cases b1 with
            | true => simpa [e1, e2, e3] using ih
            | false => simp [e1, e2, e3]
          · cases hb
        · cases hb
      | [], [], hb => simp [Prim.eqL] at hb
      | [], _ :: _, hb => simp [Prim.eqL] at hb
      | _ :: _, [], hb => simp [Prim.eqL] at hb
    | [], hl => simp [flatOk] at hl

theorem aggEq_sound (S : Sim w0 B0 M0 N μ e h a w) {o : Go.Oper} {neq : Bool} {op : BinOp} {t t' : TypeId} {ks : List Nat} {x y : Operand} {x' y' : Arg} (ho : o.op = .binOp op t x y t') (hop : op = match neq with | true => .neq | false => .eql) (ht : flatEq P t ks = true) (h2 : argOk x x' = true) (h3 : argOk y y' = true)
    (hx : opF prims e h n (.aggEq neq ks x' y') = some (v, objs)) : Comes1 P w0 B0 M0 N μ e h a w o n v objs := by
  simp only [opF] at hx
  split at hx
  · rename_i cs ds hp hq
    split at hx
    · rename_i b hb
      cases hx
      obtain ⟨us, h4, _, ep⟩ := S.arg h2 hp
      obtain ⟨vs, h5, _, eq_⟩ := S.arg h3 hq
      simp only [mkV] at ep eq_
      unfold flatEq at ht
      split at ht
      · rename_i fs hu
        simp only [Bool.and_eq_true, Bool.not_eq_true'] at ht
        obtain ⟨⟨h6, h7⟩, h8⟩ := ht
        have key := fun w' => forIn_fields (P := P) (M := Mut M0 μ h) (s := shapes h) (w := w) (μ := μ) (xs := us.toArray) (ys := vs.toArray) 9998 w' fs.toList ks 0 cs ds b h6 hb
          (fun j c hj => by obtain ⟨u, hu, hr⟩ := h4.get j c hj; exact ⟨u, by simpa using hu, hr⟩) (fun j c hj => by obtain ⟨u, hu, hr⟩ := h5.get j c hj; exact ⟨u, by simpa using hu, hr⟩)
        have heq : ∀ w', (Go.Op.equal t (.agg us.toArray) (.agg vs.toArray)).run P w' = .ok b w' := by
          intro w'
          show (Go.Op.equalIn (9999 + 1) t (.agg us.toArray) (.agg vs.toArray)).run P w' = .ok b w'
          have hk := key w'
          generalize hd : (9998 + 1 : Nat) = d at hk
          rw [show (9999 : Nat) = d from hd]
          simp only [Go.Op.equalIn, Sem.run_bind, run_underlying hu, Result.andThen]
          simp [h7]
          rw [show fs = fs.toList.toArray by simp, List.forIn_toArray, hk]
          cases b <;> simp
        have hgd : ∀ op, (eqGuard op t x y (.agg us.toArray) (.agg vs.toArray)).run P w = .ok () w := by
          intro op
          unfold eqGuard
          split <;> simp [h8, program, Sem.run, bind, Sem.bind, pure]
        cases neq <;> simp only at hop <;> subst hop
        · refine .pure S (u := .bool b) ?_ (RV_cell.2 (.bool _))
          have hbb : binOp .eql t (.agg us.toArray) (.agg vs.toArray) = (do pure (.bool (← Go.Op.equal t (.agg us.toArray) (.agg vs.toArray)))) := rfl
          simp [execOp, ho, ep, eq_, hbb, heq, hgd]
        · refine .pure S (u := .bool (!b)) ?_ (RV_cell.2 (.bool _))
          have hbb : binOp .neq t (.agg us.toArray) (.agg vs.toArray) = (do pure (.bool (!(← Go.Op.equal t (.agg us.toArray) (.agg vs.toArray))))) := rfl
          simp [execOp, ho, ep, eq_, hbb, heq, hgd]
      · cases ht
    · cases hx
  · cases hx
end
end Go.Vi
