/-
  The framework: stores, appends.
-/
import Derived.Test.YtkjnedjjdmfpbaaGreatDoorA2
import Derived.Laws.AppendOwn
set_option linter.unusedVariables false
set_option linter.unusedSimpArgs false
set_option linter.unusedSectionVars false
namespace Go.Vi
open Go.RowKit
set_option linter.unusedVariables false
set_option linter.unusedSimpArgs false

section
variable {P : Program} {w0 : World} {B0 M0 : Nat → Prop} {N : Nat} {μ : Nat → Value} {e : EnvF} {h : HeapF} {a : Act} {w : World} {n : Nat} {v : V} {objs : List Obj}

def argsOk : List Operand → List Arg → Bool
  | [], [] => true
  | x :: r, y :: q => argOk x y && argsOk r q
  | _, _ => false

theorem capC_sound {M : Nat → Prop} {s : Nat → Option Sh} {c : C} {y : Cap} {u : Value} (hc : capC c = some y) (hr : RC M w μ s c u) : RCap M w μ s y u := by
  cases c <;> simp only [capC, Option.some.injEq, reduceCtorEq] at hc
  · subst hc; exact hr
  · subst hc; exact hr
theorem capL_sound {M : Nat → Prop} {s : Nat → Option Sh} : ∀ {cs : List C} {ys : List Cap} {us : List Value}, capL cs = some ys → All2 (RC M w μ s) cs us → All2 (RCap M w μ s) ys us
  | [], ys, us, hc, ha => by
    simp only [capL, Option.some.injEq] at hc
    subst hc
    match us, ha with
    | [], _ => trivial
  | c :: r, ys, u :: us, hc, ha => by
    simp only [capL] at hc
    split at hc
    · rename_i y hy
      split at hc
      · rename_i ys' hr
        cases hc
        exact ⟨capC_sound hy ha.1, capL_sound hr ha.2⟩
      · cases hc
    · cases hc
  | _ :: _, _, [], _, ha => ha.elim
theorem firstArgs_sound (S : Sim w0 B0 M0 N μ e h a w) : ∀ {xs : List Operand} {ys : List Arg} {r : List (Bool × List Cap)}, argsOk xs ys = true → firstArgs e ys = some r →
    ∃ fs, All2 (fun p us => All2 (RCap (Mut M0 μ h) w μ (shapes h)) p.2 us ∧ okLen p.1 us.length) r fs ∧ (r.zip fs).map (fun p => mkV p.1.1 p.2) = xs.map a.eval
  | [], [], r, _, hr => by
    simp only [firstArgs, Option.some.injEq] at hr
    subst hr
    exact ⟨[], trivial, rfl⟩
  | x :: xs, y :: ys, r, ho, hr => by
    simp only [argsOk, Bool.and_eq_true] at ho
    simp only [firstArgs] at hr
    split at hr
    · rename_i b cs hv
      split at hr
      · rename_i q hq
        split at hr
        · rename_i qs hqs
          cases hr
          obtain ⟨us, h1, h2, h3⟩ := S.arg ho.1 hv
          obtain ⟨fs, h4, h5⟩ := firstArgs_sound S ho.2 hqs
          exact ⟨us :: fs, ⟨⟨capL_sound hq h1, h2⟩, h4⟩, by simp [h5, h3]⟩
        · cases hr
      · cases hr
    · cases hr
  | [], _ :: _, _, ho, _ => by simp [argsOk] at ho
  | _ :: _, [], _, ho, _ => by simp [argsOk] at ho
theorem capArgs_sound (S : Sim w0 B0 M0 N μ e h a w) : ∀ {xs : List Operand} {ys : List Arg} {r : List Cap}, argsOk xs ys = true → capArgs e ys = some r → All2 (RCap (Mut M0 μ h) w μ (shapes h)) r (xs.map a.eval)
  | [], [], r, _, hr => by
    simp only [capArgs, Option.some.injEq] at hr
    subst hr
    trivial
  | x :: xs, y :: ys, r, ho, hr => by
    simp only [argsOk, Bool.and_eq_true] at ho
    simp only [capArgs] at hr
    split at hr
    · rename_i c hv
      split at hr
      · rename_i q hq
        split at hr
        · rename_i qs hqs
          cases hr
          exact ⟨capC_sound hq (S.cell ho.1 hv), capArgs_sound S ho.2 hqs⟩
        · cases hr
      · cases hr
    · cases hr
  | [], _ :: _, _, ho, _ => by simp [argsOk] at ho
  | _ :: _, [], _, ho, _ => by simp [argsOk] at ho

theorem mkFn_sound (S : Sim w0 B0 M0 N μ e h a w) {o : Go.Oper} {f : Nat} {xs ys : Array Operand} {xs' ys' : List Arg} (ho : o.op = .makeFunc (.func f) xs ys) (h1 : argsOk xs.toList xs' = true) (h2 : argsOk ys.toList ys' = true)
    (hx : opF prims e h n (.mkFn f xs' ys') = some (v, objs)) : Comes1 P w0 B0 M0 N μ e h a w o n v objs := by
  simp only [opF] at hx
  split at hx
  · rename_i p q hp hq
    cases hx
    obtain ⟨fs, h3, h4⟩ := firstArgs_sound S h1 hp
    have h5 := capArgs_sound S h2 hq
    refine .pure S (u := .func (.func f) (xs.map a.eval) (ys.map a.eval)) (by simp [execOp, ho, Instr.makeFunc]) (RV_cell.2 ⟨fs, ys.toList.map a.eval, h3, h5, ?_⟩)
    rw [h4, ← Array.toList_map, ← Array.toList_map, Array.toArray_toList, Array.toArray_toList]
  · cases hx

theorem ints_sound (S : Sim w0 B0 M0 N μ e h a w) : ∀ {xs : List Operand} {ys : List Arg} {r : List Int}, argsOk xs ys = true → ints e ys = some r → xs.map a.eval = r.map (Value.int .i64)
  | [], [], r, _, hr => by
    simp only [ints, Option.some.injEq] at hr
    subst hr
    rfl
  | x :: xs, y :: ys, r, ho, hr => by
    simp only [argsOk, Bool.and_eq_true] at ho
    simp only [ints] at hr
    split at hr
    · rename_i k hv
      split at hr
      · rename_i qs hqs
        cases hr
        simp [S.intK ho.1 hv, ints_sound S ho.2 hqs]
      · cases hr
    · cases hr
  | [], _ :: _, _, ho, _ => by simp [argsOk] at ho
  | _ :: _, [], _, ho, _ => by simp [argsOk] at ho

theorem foldlM_min : ∀ (r : List Int) (x : Int) (w : World), ((r.map (Value.int .i64)).foldlM Builtin.min2 (Value.int .i64 x)).run P w = .ok (.int .i64 (minL prims x r)) w
  | [], x, w => by simp [minL]
  | y :: r, x, w => by
    have := foldlM_min r (pickB (prims.lt y x) y x) w
    simp only [List.map_cons, List.foldlM_cons, Builtin.min2, minL] at this ⊢
    simp only [Sem.run_bind, Sem.run_pure, Result.andThen]
    rw [← this]
    by_cases hc : y < x <;> simp [prims, pickB, hc]
theorem foldlM_max : ∀ (r : List Int) (x : Int) (w : World), ((r.map (Value.int .i64)).foldlM Builtin.max2 (Value.int .i64 x)).run P w = .ok (.int .i64 (maxL prims x r)) w
  | [], x, w => by simp [maxL]
  | y :: r, x, w => by
    have := foldlM_max r (pickB (prims.lt x y) y x) w
    simp only [List.map_cons, List.foldlM_cons, Builtin.max2, maxL] at this ⊢
    simp only [Sem.run_bind, Sem.run_pure, Result.andThen]
    rw [← this]
    by_cases hc : x < y <;> simp [prims, pickB, hc]

theorem min_sound (S : Sim w0 B0 M0 N μ e h a w) {o : Go.Oper} {ts : Array TypeId} {xs : Array Operand} {xs' : List Arg} (ho : o.op = .call { callee := .builtin .min, args := xs, argTypes := ts }) (h1 : argsOk xs.toList xs' = true)
    (hx : opF prims e h n (.min xs') = some (v, objs)) : Comes1 P w0 B0 M0 N μ e h a w o n v objs := by
  simp only [opF] at hx
  split at hx
  · rename_i x r hr
    cases hx
    have h2 := ints_sound S h1 hr
    refine .pure S (u := .int .i64 (minL prims x r)) ?_ (RV_cell.2 (.int _ _))
    simp [execOp, ho, resolve, invoke, builtin, Builtin.min_, h2, foldlM_min]
  · cases hx
theorem max_sound (S : Sim w0 B0 M0 N μ e h a w) {o : Go.Oper} {ts : Array TypeId} {xs : Array Operand} {xs' : List Arg} (ho : o.op = .call { callee := .builtin .max, args := xs, argTypes := ts }) (h1 : argsOk xs.toList xs' = true)
    (hx : opF prims e h n (.max xs') = some (v, objs)) : Comes1 P w0 B0 M0 N μ e h a w o n v objs := by
  simp only [opF] at hx
  split at hx
  · rename_i x r hr
    cases hx
    have h2 := ints_sound S h1 hr
    refine .pure S (u := .int .i64 (maxL prims x r)) ?_ (RV_cell.2 (.int _ _))
    simp [execOp, ho, resolve, invoke, builtin, Builtin.max_, h2, foldlM_max]
  · cases hx

theorem indexCells_sound (S : Sim w0 B0 M0 N μ e h a w) {o : Go.Oper} {t len sz : Nat} {agg : Bool} {x y : Operand} {x' y' : Arg} (ho : o.op = .indexAddr t x y) (ht : arrayIs P t len sz agg = true) (h2 : argOk x x' = true) (h3 : argOk y y' = true)
    (hx : opF prims e h n (.indexCells len sz x' y') = some (v, objs)) : Comes1 P w0 B0 M0 N μ e h a w o n v objs := by
  obtain ⟨q, hu, hz, _⟩ := arrayIs_open ht
  simp only [opF] at hx
  split at hx
  · rename_i id off k j hc hj
    split at hx
    · rename_i hlt
      have hlt : j < len := by simpa [Nat.blt_eq] using hlt
      cases hx
      have ej := (S.dat h3 hj).int_eq
      obtain ⟨h4, g, h5, h6⟩ := S.cell h2 hc
      refine .pure S (u := .pointer (some ⟨g, off + j * sz, none⟩)) ?_ (RV_cell.2 ⟨h4, g, h5, rfl⟩)
      have hadd : (⟨g, off, none⟩ : Addr).add (j * sz) = ⟨g, off + j * sz, none⟩ := by unfold Addr.add; split <;> simp_all
      have hb : (0 : Int) ≤ Int.ofNat j ∧ Int.ofNat j < (len : Int) := ⟨Int.natCast_nonneg j, by simpa using Int.ofNat_lt.2 hlt⟩
      simp [execOp, ho, Instr.indexAt, ej, h6, asIntOf, run_underlying hu, Instr.sureAddr, hlt, sizeIs_run hz, hadd]
    · cases hx
  · cases hx

theorem index_sound (S : Sim w0 B0 M0 N μ e h a w) {o : Go.Oper} {t len sz : Nat} {agg : Bool} {x y : Operand} {x' y' : Arg} (ho : o.op = .index t x y) (ht : arrayIs P t len sz agg = true) (h1 : agg = true ∨ sz = 1) (h2 : argOk x x' = true) (h3 : argOk y y' = true)
    (hx : opF prims e h n (.index len sz agg x' y') = some (v, objs)) : Comes1 P w0 B0 M0 N μ e h a w o n v objs := by
  obtain ⟨q, hu, hz, ha⟩ := arrayIs_open ht
  simp only [opF] at hx
  split at hx
  · rename_i cs k j hc hj
    split at hx
    · rename_i hlt
      have hlt : j < len := by simpa [Nat.blt_eq] using hlt
      split at hx
      · rename_i r hr
        cases hx
        obtain ⟨rfl, hl⟩ := cutL_eq hr
        have ej := (S.dat h3 hj).int_eq
        obtain ⟨us, hall, _, hv⟩ := S.arg h2 hc
        have hp := (hall.drop (j * sz)).take sz
        have hl' : ((us.drop (j * sz)).take sz).length = sz := by rw [← hp.length, hl]
        refine .pure S (u := mkV agg ((us.drop (j * sz)).take sz)) ?_ ⟨_, hp, okLen_of (by rw [hl']; exact h1), rfl⟩
        simp only [mkV] at hv
        simp [execOp, ho, Instr.index, asIntOf, ej, run_underlying hu, hv, hlt, sizeIs_run hz, run_part ha hz h1 hl']
      · cases hx
    · cases hx
  · cases hx

/-- '[]byte(s)'. -/
theorem run_strBytes {e' : TypeId} (s : ByteArray) (w : World) : ∃ w' cap, (Conv.stringToBytes e' s).run P w = .ok (.slice (some ⟨w.heap.size, 0, none⟩) s.size cap) w' ∧ Below w.heap.size w w' ∧ s.size ≤ cap ∧ w.heap.size < w'.heap.size ∧
    ∀ j, j < s.size → w'.cell? ⟨w.heap.size, j, none⟩ = some (.int .u8 ((s.data.toList.getD j 0).toNat : Int)) := by
  obtain ⟨cap, hcap, hle⟩ : ∃ cap, cap = (Question.appendCap s.size 0 e').cut (w.tape w.drawn (.appendCap s.size 0 e')) ∧ s.size ≤ cap := ⟨_, rfl, by simp [Question.cut]⟩
  obtain ⟨cells, hcells⟩ : ∃ cells : Array Value, cells = (s.data.map fun b => Value.int .u8 b.toNat) ++ Array.replicate (cap - s.size) (.int .u8 0) := ⟨_, rfl⟩
  refine ⟨({ w with drawn := w.drawn + 1, heap := w.heap.push (.cells cells e') } : World).freeze ⟨w.heap.size, cells.size, none⟩ 1, cap, ?_, ?_, hle, ?_, ?_⟩
  · have hch : ∀ (f : Nat → Sem Value), ((choose (.appendCap s.size 0 e')) >>= f).run P w = (f cap).run P { w with drawn := w.drawn + 1 } := by
      intro f
      rw [hcap]
      rfl
    unfold Conv.stringToBytes
    rw [hch]
    dsimp only
    rw [← hcells]
    simp only [Sem.run_bind, run_newRow, Result.andThen, markStringish, run_shape]
    have : ({ w with drawn := w.drawn + 1 } : World).alloc (.cells cells e') = { w with drawn := w.drawn + 1, heap := w.heap.push (.cells cells e') } := rfl
    rw [this]
    have hsh : ({ w with drawn := w.drawn + 1, heap := w.heap.push (.cells cells e') } : World).shape? w.heap.size = some (e', cells.size) := by simp [World.shape?]
    simp [hsh]
  · refine ⟨by simp [World.freeze], by simp [World.freeze], by simp [World.freeze], by simp [World.freeze], fun k hk => ?_⟩
    simp only [World.freeze, Nat.one_ne_zero, if_false, Array.getElem?_modify, Array.getElem?_push]
    rw [if_neg (by omega), if_neg (by omega)]
  · simp [World.freeze]
  · intro j hj
    have hj' : j < s.data.size := hj
    simp only [World.cell?, World.freeze, Nat.one_ne_zero, if_false, Array.getElem?_modify, Array.getElem?_push, if_true, Option.map_some, Option.isSome_none, Bool.false_eq_true]
    rw [hcells, Array.getElem?_append_left (by simpa using hj')]
    simp [hj', List.getD]
    exact ⟨s.data[j], by simp [hj'], by rw [Array.getElem?_eq_getElem hj']; rfl⟩

theorem strBytes_sound (S : Sim w0 B0 M0 N μ e h a w) {o : Go.Oper} {t t' e' : TypeId} {x : Operand} {x' : Arg} (ho : o.op = .convert t t' x) (ht : P.underlying t = some .string) (ht' : P.underlying t' = some (.slice e')) (he : P.underlying e' = some (.int .u8)) (h2 : argOk x x' = true)
    (hx : opF prims e h n (.strBytes x') = some (v, objs)) : Comes1 P w0 B0 M0 N μ e h a w o n v objs := by
  simp only [opF] at hx
  split at hx
  · rename_i s hs
    cases hx
    have es := S.str h2 hs
    obtain ⟨w', cap, hrun, hb, hle, hlt, hcell⟩ := run_strBytes (P := P) (e' := e') s w
    refine .data S hb (u := .slice (some ⟨w.heap.size, 0, none⟩) s.size cap) (by simp [execOp, ho, convert, run_underlying ht, run_underlying ht', run_underlying he, es, hrun]) ?_
    have hone : ∀ cs ∈ prims.bytes s, cs.length = 1 := by
      intro cs hcs
      simp only [prims, List.mem_map] at hcs
      obtain ⟨b, _, rfl⟩ := hcs
      rfl
    have hlen : (prims.bytes s).length = s.size := by simp [prims]
    have hadd : ∀ q, (⟨w.heap.size, 0, none⟩ : Addr).add q = ⟨w.heap.size, q, none⟩ := fun q => by unfold Addr.add; split <;> simp_all
    have hfl : (prims.bytes s).flatten = s.data.toList.map fun b => D.int .u8 b.toNat := by
      simp only [prims]
      induction s.data.toList with
      | nil => rfl
      | cons b r ih => simp [ih]
    have key := RD.row (M := Mut M0 μ h) (w := w') 1 (prims.bytes s) ⟨w.heap.size, 0, none⟩ cap (fun j => .int .u8 ((s.data.toList.getD j 0).toNat : Int)) hone (by rw [hlen]; exact hle) hlt
      (fun hm => absurd (S.mut_lt hm) (Nat.lt_irrefl _)) (fun j hj => by rw [hadd]; exact hcell j (by rw [flatten_len hone, hlen] at hj; omega)) (fun j d hd => by
        rw [hfl, List.getElem?_map, Option.map_eq_some_iff] at hd
        obtain ⟨b, hb, rfl⟩ := hd
        simp only [List.getD, hb, Option.getD_some]
        exact .int _ _)
    rw [hlen] at key
    exact key
  · cases hx

theorem ofBytes_open : ∀ {es : List (List D)} {l : List UInt8}, es.mapM byteOf = some l → ∃ ns : List Int, es = ns.map (fun n => [D.int .u8 n]) ∧ l = ns.map fun n => UInt8.ofNat n.toNat
  | [], l, h => by
    simp at h
    exact ⟨[], rfl, by simp [h]⟩
  | c :: r, l, h => by
    rw [List.mapM_cons] at h
    simp only [Option.bind_eq_bind, Option.bind_eq_some_iff, Option.pure_def, Option.some.injEq] at h
    obtain ⟨b, hb, l', hl', rfl⟩ := h
    obtain ⟨ns, rfl, rfl⟩ := ofBytes_open hl'
    unfold byteOf at hb
    split at hb
    · rename_i n
      cases hb
      exact ⟨n :: ns, rfl, rfl⟩
    · cases hb

theorem push_bytes (ns : List Int) : ∀ s : ByteArray, ns.foldl (fun r n => r.push (UInt8.ofNat n.toNat)) s = ⟨s.data ++ (ns.map fun n => UInt8.ofNat n.toNat).toArray⟩ := by
  induction ns with
  | nil => intro s; simp
  | cons n r ih =>
    intro s
    rw [List.foldl_cons, ih]
    congr 1
    apply Array.toList_inj.1
    simp [ByteArray.push]

theorem bytesStr_sound (S : Sim w0 B0 M0 N μ e h a w) {o : Go.Oper} {t t' e' : TypeId} {x : Operand} {x' : Arg} (ho : o.op = .convert t t' x) (ht : P.underlying t = some (.slice e')) (ht' : P.underlying t' = some .string) (he : P.underlying e' = some (.int .u8)) (h2 : argOk x x' = true)
    (hx : opF prims e h n (.bytesStr x') = some (v, objs)) : Comes1 P w0 B0 M0 N μ e h a w o n v objs := by
  simp only [opF] at hx
  split at hx
  · rename_i c hc
    split at hx
    · rename_i es hes
      split at hx
      · rename_i s hs
        cases hx
        simp only [prims, Option.map_eq_some_iff] at hs
        obtain ⟨l, hl, rfl⟩ := hs
        obtain ⟨ns, rfl, rfl⟩ := ofBytes_open hl
        have rc := S.cell h2 hc
        -- what lies there
        have hcells : (∃ cap, a.eval x = .slice none 0 cap ∧ ns = []) ∨ ∃ ad cap, a.eval x = .slice (some ad) ns.length cap ∧ ∀ j u, (ns.map (Value.int .u8))[j]? = some u → w.cell? (ad.add j) = some u := by
          have hfl : ∀ l : List Int, (l.map fun n => [D.int .u8 n]).flatten = l.map (D.int .u8) := fun l => by induction l <;> simp_all
          unfold Vi.elems at hes
          split at hes
          · cases hes
            generalize hg : a.eval x = u at rc
            generalize hq : (ns.map fun n => [D.int .u8 n]) = q at rc
            cases rc with
            | rowE _ ad cap =>
              have : ns = [] := by cases ns <;> simp_all
              cases ad with
              | none => exact .inl ⟨cap, rfl, this⟩
              | some ad => exact .inr ⟨ad, cap, by rw [this]; rfl, by rw [this]; simp⟩
            | row _ _ ad cap us hsz hcap hb hm hr hd =>
              subst hq
              refine .inr ⟨ad, cap, by simp, fun j u hu => ?_⟩
              rw [List.getElem?_map, Option.map_eq_some_iff] at hu
              obtain ⟨k, hk, rfl⟩ := hu
              rw [hfl] at hr hd
              have h5 := hd j (.int .u8 k) (by simp [hk])
              rw [hr j (by have := (List.getElem?_eq_some_iff.1 hk).1; simpa using this), h5.int_eq]
          · rename_i id
            split at hes
            · rename_i ty sz es' hh
              cases hes
              obtain ⟨_, hu⟩ := rc
              obtain ⟨hsz, xs, hown, hall⟩ := S.heap id _ hh
              rw [hfl] at hall
              have hxs : xs = ns.map (Value.int .u8) := by
                apply List.ext_getElem?
                intro j
                cases hj : ns[j]? with
                | none =>
                  have := hall.length
                  rw [List.getElem?_map, hj, List.getElem?_eq_none (by rw [← this]; simpa using List.getElem?_eq_none_iff.1 hj)]
                  rfl
                | some k =>
                  obtain ⟨u, hu, hr⟩ := hall.get j (.int .u8 k) (by simp [hj])
                  rw [hu, hr.int_eq]
                  simp [hj]
              subst hxs
              rcases hown.2 with ⟨h4, h5⟩ | ⟨g, cap, cur, h4, _⟩
              · exact .inl ⟨0, by rw [hu, h4], by cases ns <;> simp_all⟩
              · refine .inr ⟨⟨g, 0, none⟩, cap, by rw [hu, h4]; simp, hown.cells (g := g) (by rw [h4]; rfl)⟩
            · cases hes
          · cases hes
        refine .pure S (u := .string ⟨(ns.map fun (n : Int) => UInt8.ofNat n.toNat).toArray⟩) ?_ (RV_cell.2 (.str _))
        rcases hcells with ⟨cap, h4, rfl⟩ | ⟨ad, cap, h4, h5⟩
        · simp [execOp, ho, convert, run_underlying ht, run_underlying ht', run_underlying he, h4, Conv.bytesToString]
          rfl
        · have h6 := run_loadCells_list (P := P) w ad (ns.map (Value.int .u8)) h5
          rw [List.length_map] at h6
          have h7 := run_bytesToString w ad ns.length cap ns h6
          rw [push_bytes] at h7
          simp only [execOp, ho, convert, Sem.run_bind, run_underlying ht, run_underlying ht', Result.andThen, h4, run_underlying he, h7]
          simp
      · cases hx
    · cases hx
  · cases hx
end
end Go.Vi
namespace Go.Vi
open Go.RowKit
set_option linter.unusedVariables false

def lookIs (P : Program) (t sz : Nat) (zs : List D) : Bool := match P.underlying t with
  | some (.map k e) => (match P.underlying k with
    | some .string => true
    | _ => false) && (match P.info? e with
    | some i => match i.zero, sz with
      | some (.agg cs), _ + 1 => zeroOk cs.toList (zs.map Zero.d)
      | some (.agg _), 0 => false
      | some z, 0 => zeroOk [z] (zs.map Zero.d) && zs.length == 1
      | _, _ => false
    | none => false)
  | _ => false
theorem zeroC_data : ∀ (zs : List D) (m : Nat), zeroC m (zs.map Zero.d) = ofData zs
  | [], _ => rfl
  | x :: r, m => by simp [zeroC, ofData, zeroC_data r m]
theorem nilsOf_data : ∀ (zs : List D), nilsOf (zs.map Zero.d) = []
  | [] => rfl
  | x :: r => by simp [nilsOf, nilsOf_data r]
theorem lookIs_open {P : Program} {t sz : Nat} {zs : List D} (hc : lookIs P t sz zs = true) : ∃ k e z, P.underlying t = some (.map k e) ∧ P.underlying k = some .string ∧ (∀ w, (zeroValue e).run P w = .ok z w) ∧
    ∀ (M : Nat → Prop) (w : World) (μ : Nat → Value) (s : Nat → Option Sh), RV M w μ s (.v (isAgg' sz) (ofData zs)) z := by
  unfold lookIs at hc
  split at hc
  · rename_i k e htt
    rw [Bool.and_eq_true] at hc
    obtain ⟨h1, h2⟩ := hc
    split at h1
    · rename_i hk
      split at h2
      · rename_i i hi
        have hz : ∀ z, i.zero = some z → ∀ w, (zeroValue e).run P w = .ok z w := fun z hzz w => by simp [zeroValue, typeInfo, hi, hzz]
        split at h2
        · rename_i cs sz' hzz
          refine ⟨k, e, .agg cs, htt, hk, hz _ hzz, fun M w μ s => ⟨cs.toList, ?_, trivial, by simp [mkV]; rfl⟩⟩
          have := zeroC_all (M := M) (w := w) (μ := μ) (s := s) (m := 0) h2 (fun j p hp => by rw [nilsOf_data] at hp; simp at hp)
          rwa [zeroC_data] at this
        · cases h2
        · rename_i z hne hzz
          simp only [Bool.and_eq_true, beq_iff_eq] at h2
          refine ⟨k, e, z, htt, hk, hz _ hzz, fun M w μ s => ⟨[z], ?_, rfl, rfl⟩⟩
          have := zeroC_all (M := M) (w := w) (μ := μ) (s := s) (m := 0) h2.1 (fun j p hp => by rw [nilsOf_data] at hp; simp at hp)
          rwa [zeroC_data] at this
        · cases h2
      · cases h2
    · cases h1
  · cases hc

section
variable {P : Program} {w0 : World} {B0 M0 : Nat → Prop} {N : Nat} {μ : Nat → Value} {e : EnvF} {h : HeapF} {a : Act} {w : World} {n : Nat} {v : V} {objs : List Obj}

theorem findNow_look {M : Nat → Prop} {sz : Nat} (s : ByteArray) (cs' : List D) : ∀ (es : List (D × List D)) (ents : List MapEntry) (i : Nat), MapOk M w sz es ents →
    (prims.look es (.str s) = none ∧ Instr.findNow .string (.string s) ents i = some none ∧ updL es (.str s) cs' = es ++ [(.str s, cs')]) ∨
    ∃ (j : Nat) (p : D × List D) (me : MapEntry), es[j]? = some p ∧ ents[j]? = some me ∧ (∃ s', me.key = .string s' ∧ (s == s') = true) ∧ prims.look es (.str s) = some p.2 ∧ Instr.findNow .string (.string s) ents i = some (some (i + j, me.val)) ∧ updL es (.str s) cs' = es.set j (.str s, cs')
  | [], [], i, _ => .inl ⟨rfl, rfl, rfl⟩
  | [], _ :: _, i, h => h.elim
  | _ :: _, [], i, h => h.elim
  | (k, cs) :: es, me :: ents, i, h => by
    obtain ⟨⟨⟨s', hk, h0⟩, _⟩, hrest⟩ := h
    dsimp only at hk
    subst hk
    have hsame : Instr.sameNow .string (.string s) me.key = some (s.toList == s'.toList) := by rw [h0, ← bytes_beq]; rfl
    by_cases hx : s.toList = s'.toList
    · refine .inr ⟨0, _, me, rfl, rfl, ⟨s', h0, by rw [bytes_beq]; simp [hx]⟩, ?_, ?_, ?_⟩
      · simp [prims, sameKey, hx]
      · simp [Instr.findNow, hsame, hx]
      · simp [updL, sameKey, hx]
    · have hb : (s.toList == s'.toList) = false := by simpa using hx
      rw [hb] at hsame
      have hf : Instr.findNow .string (.string s) (me :: ents) i = Instr.findNow .string (.string s) ents (i + 1) := by simp [Instr.findNow, hsame]
      have hl' : prims.look ((.str s', cs) :: es) (.str s) = prims.look es (.str s) := by simp [prims, sameKey, Ne.symm hx]
      have hu : updL ((.str s', cs) :: es) (.str s) cs' = (.str s', cs) :: updL es (.str s) cs' := by simp [updL, sameKey, Ne.symm hx]
      rw [hf, hl', hu]
      rcases findNow_look s cs' es ents (i + 1) hrest with ⟨h3, h4, h5⟩ | ⟨j, p, me', h3, h4, h5, h6, h7, h8⟩
      · exact .inl ⟨h3, h4, by rw [h5]; rfl⟩
      · exact .inr ⟨j + 1, p, me', by simpa using h3, by simpa using h4, h5, h6, by rw [h7, show i + 1 + j = i + (j + 1) by omega], by rw [h8]; rfl⟩

theorem found_sound {M : Nat → Prop} {s : Nat → Option Sh} {sz : Nat} {ok is : Bool} {cs : List D} {u : Value} (hf : found sz ok is cs = some (v, objs)) (hr : RV M w μ s (.v (isAgg' sz) (ofData cs)) u) :
    objs = [] ∧ RV M w μ s v (if ok = true then .tuple #[u, .bool is] else u) := by
  cases ok with
  | false =>
    simp only [found, Option.some.injEq, Prod.mk.injEq] at hf
    obtain ⟨rfl, rfl⟩ := hf
    exact ⟨rfl, by simpa using hr⟩
  | true =>
    simp only [found, Option.some.injEq, Prod.mk.injEq] at hf
    obtain ⟨rfl, rfl⟩ := hf
    refine ⟨rfl, ?_⟩
    simp only [if_true]
    obtain ⟨us, h1, h2, h3⟩ := hr
    exact ⟨[u, .bool is], rfl, ⟨us, h1, h2, h3⟩, ⟨[.bool is], ⟨RD.bool _, trivial⟩, rfl, rfl⟩, trivial⟩

theorem entries_open (S : Sim w0 B0 M0 N μ e h a w) {c : C} {u : Value} {sz : Nat} {es : List (D × List D)} (hc : RC (Mut M0 μ h) w μ (shapes h) c u) (he : entries h sz c = some es) :
    ∃ r ents clock, u = .map (some r) ∧ w.heap[r]? = some (.map ents clock) ∧ MapOk (Mut M0 μ h) w sz es ents.toList := by
  have nb : ∀ {a b : Nat}, Nat.beq a b = true → a = b := fun h => Nat.eq_of_beq_eq_true h
  unfold entries at he
  split at he
  · rename_i q es0
    split at he
    · rename_i hq
      cases he
      rw [← nb hq]
      exact RD.map_open hc
    · cases he
  · rename_i id
    split at he
    · rename_i q es0 hid
      split at he
      · rename_i hq
        cases he
        rw [← nb hq]
        obtain ⟨_, rfl⟩ := hc
        exact S.heap id _ hid
      · cases he
    · cases he
  · cases he
theorem checkKey_string {kt : TypeId} (hkt : P.underlying kt = some .string) (b : Bool) (s : ByteArray) (w : World) : (Instr.checkKey b 10000 kt (.string s)).run P w = .ok () w := by
  have : ∀ d, (Instr.checkKey b (d + 1) kt (.string s)).run P w = .ok () w := fun d => by simp [Instr.checkKey, run_underlying hkt]
  exact this 9999

theorem lookup_sound (S : Sim w0 B0 M0 N μ e h a w) {o : Go.Oper} {t sz : Nat} {ok : Bool} {zs : List D} {x k : Operand} {x' k' : Arg} (ho : o.op = .lookup t x k ok) (ht : lookIs P t sz zs = true) (h2 : argOk x x' = true) (h3 : argOk k k' = true)
    (hx : opF prims e h n (.lookup sz ok zs x' k') = some (v, objs)) : Comes1 P w0 B0 M0 N μ e h a w o n v objs := by
  obtain ⟨kt, et, z, hu, hkt, hz, hzr⟩ := lookIs_open ht
  simp only [opF] at hx
  split at hx
  · rename_i c s hm hs
    have em := S.cell h2 hm
    have es_ := S.str h3 hs
    split at hx
    · rename_i es hes
      obtain ⟨r, ents, clock, hev, hh, hok⟩ := entries_open S em hes
      have hrun : ∀ (res : Option (Nat × Value)), Instr.findNow .string (.string s) ents.toList 0 = some res → (execOp a.eval o).run P w = .ok (.value (match res with
          | some (_, u) => if ok = true then .tuple #[u, .bool true] else u
          | none => if ok = true then .tuple #[z, .bool false] else z)) w := by
        intro res hres
        have hck := fun b => checkKey_string hkt b s w
        cases res with
        | none => simp [execOp, ho, hev, es_, Instr.lookup, run_underlying hu, run_underlying hkt, getObj, Sem.run, hh, hck, Instr.findKey, hres, hz]
        | some p => obtain ⟨i, u⟩ := p; simp [execOp, ho, hev, es_, Instr.lookup, run_underlying hu, run_underlying hkt, getObj, Sem.run, hh, hck, Instr.findKey, hres]
      rcases findNow_look s [] es ents.toList 0 hok with ⟨h4, h5, _⟩ | ⟨j, p, me, h4, h5, _, h6, h7, _⟩
      · rw [h4] at hx
        obtain ⟨rfl, h6⟩ := found_sound hx (hzr (Mut M0 μ h) w μ (shapes h))
        exact .pure S (hrun none h5) h6
      · rw [h6] at hx
        obtain ⟨_, us, h8, h9, h10⟩ := hok.list_get j p me h4 h5
        have hr : RV (Mut M0 μ h) w μ (shapes h) (.v (isAgg' sz) (ofData p.2)) me.val := by
          refine ⟨us, ?_, h9, h10⟩
          rw [ofData_eq]
          exact All2.map_left C.d |>.2 h8
        obtain ⟨rfl, h11⟩ := found_sound hx hr
        exact .pure S (hrun _ h7) h11
    · cases hx
  · cases hx

/-- The element of a map that is made. -/
def mapIs (P : Program) (t : TypeId) : Bool := match P.underlying t with
  | some (.map _ _) => true
  | _ => false
theorem makeMap_sound (S : Sim w0 B0 M0 N μ e h a w) {o : Go.Oper} {t sz : Nat} (ho : o.op = .makeMap t none) (hf : ∀ id, n ≤ id → id < n + 1 → h id = none)
    (hx : opF prims e h n (.makeMap sz) = some (v, objs)) : Comes1 P w0 B0 M0 N μ e h a w o n v objs := by
  simp only [opF, Option.some.injEq, Prod.mk.injEq] at hx
  obtain ⟨rfl, rfl⟩ := hx
  have hb : Below w.heap.size w (w.alloc (.map #[] 0)) := below_alloc w _
  have h1 : ∀ j (o : Obj), [Obj.map sz []][j]? = some o → j = 0 ∧ o = .map sz [] := by
    intro j o hj
    match j, hj with
    | 0, hj => exact ⟨rfl, by simpa using hj.symm⟩
  have hnew : (w.alloc (.map #[] 0)).heap[w.heap.size]? = some (.map #[] 0) := by show (w.heap.push _)[w.heap.size]? = _; simp
  have S1 := S.new (n := n) (objs := [.map sz []]) (μ' := fun i => if i = n then .map (some w.heap.size) else μ i) (w' := w.alloc (.map #[] 0)) (fun id h1 h2 => hf id h1 (by simpa using h2)) (fun id o hid => by
      have : id ≠ n := fun he => by subst he; rw [hf id (Nat.le_refl _) (Nat.lt_succ_self _)] at hid; cases hid
      simp [this]) hb
    (fun j o k hj hk => by obtain ⟨rfl, rfl⟩ := h1 j o hj; simp [blkOf] at hk; subst hk; simp)
    (fun i j o p k hi hj _ _ => by obtain ⟨rfl, _⟩ := h1 i o hi; obtain ⟨rfl, _⟩ := h1 j p hj; rfl)
    (fun j o hj => by
      obtain ⟨rfl, rfl⟩ := h1 j o hj
      exact ⟨w.heap.size, #[], 0, by simp, hnew, trivial⟩)
  refine ⟨.map (some w.heap.size), _, _, ?_, fun id o hid => ?_, S1, RV_cell.2 ⟨?_, by simp⟩⟩
  · simp [execOp, ho, Instr.makeMap, newObj, Sem.run]
  · have : id ≠ n := fun he => by subst he; rw [hf id (Nat.le_refl _) (Nat.lt_succ_self _)] at hid; cases hid
    simp [this]
  · simp [shapes, fnew, Obj.sh]
end
end Go.Vi
namespace Go.Vi
open Go.RowKit
set_option linter.unusedVariables false
set_option linter.unusedSimpArgs false

def isInt (P : Program) (t : TypeId) (k : IntKind) : Bool := match P.underlying t with
  | some (.int q) => decide (q = k)
  | _ => false
def isStr (P : Program) (t : TypeId) : Bool := match P.underlying t with
  | some .string => true
  | _ => false
def isBool (P : Program) (t : TypeId) : Bool := match P.underlying t with
  | some .bool => true
  | _ => false
def isIface (P : Program) (t : TypeId) : Bool := match P.underlying t with
  | some (.interface _) => true
  | _ => false
def isBytes (P : Program) (t : TypeId) : Bool := match P.underlying t with
  | some (.slice e) => isInt P e .u8
  | _ => false
def isSlice (P : Program) (t : TypeId) : Bool := match P.underlying t with
  | some (.slice _) => true
  | _ => false
def cmpOp (neq : Bool) (op : BinOp) : Bool := match neq with
  | true => eqOp op .neq
  | false => eqOp op .eql
def oneCell (agg : Bool) (k : Nat) : Bool := agg || k == 1
/-- The element type's table row: its zero, cells and bytes. -/
def elemIs (P : Program) (t : TypeId) (sz bytes : Nat) (zs : List D) : Bool := match P.info? t with
  | some i => match i.zero with
    | some z => i.size == sz && i.bytes == bytes && zeroOk z.cells.toList (zs.map Zero.d)
    | none => false
  | none => false

/-- The machine's operation is the one that is told. -/
def chkF (P : Program) (o : Go.Oper) : Op → Bool
  | .mv y => match o.op with
    | .move x => argOk x y
    | .assign x => argOk x y
    | _ => false
  | .newNil _ _ => match o.op with
    | .move (.const (.slice none 0 0)) => true
    | .assign (.const (.slice none 0 0)) => true
    | _ => false
  | .pick c x y => match o.op with
    | .pick c' x' y' => argOk c' c && argOk x' x && argOk y' y
    | _ => false
  | .arith op _ x y => match o.op with
    | .binOp op' _ x' y' _ => eqOp op' op && argOk x' x && argOk y' y
    | _ => false
  | .cmp op x y => match o.op with
    | .binOp op' _ x' y' _ => eqOp op' op && argOk x' x && argOk y' y
    | _ => false
  | .strOp op x y => match o.op with
    | .binOp op' _ x' y' _ => eqOp op' op && argOk x' x && argOk y' y
    | _ => false
  | .boolEq neq x y => match o.op with
    | .binOp op t x' y' _ => cmpOp neq op && isBool P t && argOk x' x && argOk y' y
    | _ => false
  | .aggEq neq ks x y => match o.op with
    | .binOp op t x' y' _ => cmpOp neq op && flatEq P t ks && argOk x' x && argOk y' y
    | _ => false
  | .errEq neq x => match o.op with
    | .binOp op t x' (.const .nilIface) _ => cmpOp neq op && isIface P t && argOk x' x
    | _ => false
  | .not x => match o.op with
    | .unOp .not _ x' => argOk x' x
    | _ => false
  | .neg _ x => match o.op with
    | .unOp .neg _ x' => argOk x' x
    | _ => false
  | .alloc zs => match o.op with
    | .alloc t => zeroIs P t zs
    | _ => false
  | .box x => match o.op with
    | .box _ x' => argOk x' x
    | _ => false
  | .build zs ps => match o.op with
    | .build t parts => zeroIs P t zs && fieldsKnown P t && partsOk (placeOf P t) parts.toList ps
    | _ => false
  | .buildSlice e sz ys => match o.op with
    | .buildSlice t len parts => len == parts.size && rowIs P t e sz parts.size && rowPartsOk parts.toList ys 0
    | _ => false
  | .buildArr e sz ys => match o.op with
    | .buildSlice t len parts => len == parts.size && rowIs P t e sz parts.size && rowPartsOk parts.toList ys 0
    | _ => false
  | .min xs => match o.op with
    | .call { callee := .builtin .min, args := xs', .. } => argsOk xs'.toList xs
    | _ => false
  | .max xs => match o.op with
    | .call { callee := .builtin .max, args := xs', .. } => argsOk xs'.toList xs
    | _ => false
  | .load agg k x => match o.op with
    | .load t x' => aggIs P t agg && sizeIs P t k && oneCell agg k && argOk x' x
    | _ => false
  | .fieldAddr off x => match o.op with
    | .fieldAddr t x' f => match (placeOf P t) f with
      | some p => fieldIs P t f off p.2 && !(p.2 == 0) && argOk x' x
      | none => false
    | _ => false
  | .field agg off k x => match o.op with
    | .field t x' f => fieldIs P t f off k && fieldAgg P t f agg && oneCell agg k && argOk x' x
    | _ => false
  | .indexAddr sz x i => match o.op with
    | .indexAddr t x' i' => match P.underlying t with
      | some (.slice e) => sliceIs P t e sz && argOk x' x && argOk i' i
      | _ => false
    | _ => false
  | .indexCells len sz x i => match o.op with
    | .indexAddr t x' i' => (arrayIs P t len sz true || arrayIs P t len sz false) && argOk x' x && argOk i' i
    | _ => false
  | .index len sz agg x i => match o.op with
    | .index t x' i' => arrayIs P t len sz agg && oneCell agg sz && argOk x' x && argOk i' i
    | _ => false
  | .indexStr x i => match o.op with
    | .index t x' i' => isStr P t && argOk x' x && argOk i' i
    | _ => false
  | .extract x i => match o.op with
    | .extract x' i' => i == i' && argOk x' x
    | _ => false
  | .lenStr x => match o.op with
    | .call { callee := .builtin .len, args := xs', argTypes := ts } => match xs'.toList, ts.toList with
      | [x'], [t] => isStr P t && argOk x' x
      | _, _ => false
    | _ => false
  | .len x => match o.op with
    | .call { callee := .builtin .len, args := xs', argTypes := ts } => match xs'.toList, ts.toList with
      | [x'], [t] => isSlice P t && argOk x' x
      | _, _ => false
    | _ => false
  | .cutStr x lo hi => match o.op with
    | .slice t x' lo' hi' none => isStr P t && argOk x' x && oargOk lo' lo && oargOk hi' hi
    | _ => false
  | .cut sz x lo hi => match o.op with
    | .slice t x' lo' hi' none => match P.underlying t with
      | some (.slice e) => sliceIs P t e sz && argOk x' x && oargOk lo' lo && oargOk hi' hi
      | _ => false
    | _ => false
  | .conv k x => match o.op with
    | .convert t t' x' => (P.underlying t).isSome && isInt P t' k && argOk x' x
    | _ => false
  | .strBytes x => match o.op with
    | .convert t t' x' => isStr P t && isBytes P t' && argOk x' x
    | _ => false
  | .bytesStr x => match o.op with
    | .convert t t' x' => isBytes P t && isStr P t' && argOk x' x
    | _ => false
  | .mkFn f first cap => match o.op with
    | .makeFunc (.func g) first' cap' => f == g && argsOk first'.toList first && argsOk cap'.toList cap
    | _ => false
  | .nilCheck x => match o.op with
    | .nilCheck x' => argOk x' x
    | _ => false
  | .makeSlice e sz bytes zs x => match o.op with
    | .makeSlice t l c => match P.underlying t with
      | some (.slice q) => q == e && elemIs P e sz bytes zs && argOk l x && argOk c x
      | _ => false
    | _ => false
  | .makeMap _ => match o.op with
    | .makeMap _ none => true
    | _ => false
  | .lookup sz ok zs x k => match o.op with
    | .lookup t x' k' ok' => ok' == ok && lookIs P t sz zs && argOk x' x && argOk k' k
    | _ => false
  | _ => false

section
variable {P : Program} {w0 : World} {B0 M0 : Nat → Prop} {N : Nat} {μ : Nat → Value} {e : EnvF} {h : HeapF} {a : Act} {w : World} {n : Nat} {v : V} {objs : List Obj}

theorem isInt_open {t : TypeId} {k : IntKind} (hc : isInt P t k = true) : P.underlying t = some (.int k) := by
  unfold isInt at hc
  split at hc
  · rename_i q hq; rw [hq, of_decide_eq_true hc]
  · cases hc
theorem isStr_open {t : TypeId} (hc : isStr P t = true) : P.underlying t = some .string := by
  unfold isStr at hc
  split at hc
  · assumption
  · cases hc
theorem isBool_open {t : TypeId} (hc : isBool P t = true) : P.underlying t = some .bool := by
  unfold isBool at hc
  split at hc
  · assumption
  · cases hc
theorem isIface_open {t : TypeId} (hc : isIface P t = true) : ∃ ms, P.underlying t = some (.interface ms) := by
  unfold isIface at hc
  split at hc
  · rename_i ms hq; exact ⟨ms, hq⟩
  · cases hc
theorem isBytes_open {t : TypeId} (hc : isBytes P t = true) : ∃ e, P.underlying t = some (.slice e) ∧ P.underlying e = some (.int .u8) := by
  unfold isBytes at hc
  split at hc
  · rename_i e hq; exact ⟨e, hq, isInt_open hc⟩
  · cases hc
theorem isSlice_open {t : TypeId} (hc : isSlice P t = true) : ∃ e, P.underlying t = some (.slice e) := by
  unfold isSlice at hc
  split at hc
  · rename_i e hq; exact ⟨e, hq⟩
  · cases hc
theorem cmpOp_open {neq : Bool} {op : BinOp} : cmpOp neq op = true → op = match neq with | true => .neq | false => .eql := by
  intro hc; cases neq <;> exact eqOp_eq hc
theorem oneCell_open {agg : Bool} {k : Nat} (hc : oneCell agg k = true) : agg = true ∨ k = 1 := by simpa [oneCell] using hc

/-- **Every operation that changes no local object.** -/
theorem opF_sound (S : Sim w0 B0 M0 N μ e h a w) {o : Go.Oper} {op : Op} (hc : chkF P o op = true) (hf : ∀ id, n ≤ id → id < n + op.fresh → h id = none) (hx : opF prims e h n op = some (v, objs)) : Comes1 P w0 B0 M0 N μ e h a w o n v objs := by
  cases op <;> simp only [chkF, Bool.false_eq_true] at hc
  case mv y =>
    split at hc
    · rename_i x ho; exact mv_sound S (.inl ho) hc hx
    · rename_i x ho; exact mv_sound S (.inr ho) hc hx
    · cases hc
  case newNil t sz =>
    split at hc
    · rename_i ho; exact newNil_sound S (.inr ho) (hf n (Nat.le_refl _) (Nat.lt_succ_self _)) hx
    · rename_i ho; exact newNil_sound S (.inl ho) (hf n (Nat.le_refl _) (Nat.lt_succ_self _)) hx
    · cases hc
  case pick c x y =>
    split at hc
    · rename_i ho; simp only [Bool.and_eq_true] at hc; exact pick_sound S ho hc.1.1 hc.1.2 hc.2 hx
    · cases hc
  case arith op k x y =>
    split at hc
    · rename_i ho; simp only [Bool.and_eq_true] at hc; exact arith_sound S ho hc.1.1 hc.1.2 hc.2 hx
    · cases hc
  case cmp op x y =>
    split at hc
    · rename_i ho; simp only [Bool.and_eq_true] at hc; exact cmp_sound S ho hc.1.1 hc.1.2 hc.2 hx
    · cases hc
  case strOp op x y =>
    split at hc
    · rename_i ho; simp only [Bool.and_eq_true] at hc; exact strOp_sound S ho hc.1.1 hc.1.2 hc.2 hx
    · cases hc
  case boolEq neq x y =>
    split at hc
    · rename_i ho; simp only [Bool.and_eq_true] at hc; exact boolEq_sound S ho (cmpOp_open hc.1.1.1) (isBool_open hc.1.1.2) hc.1.2 hc.2 hx
    · cases hc
  case aggEq neq ks x y =>
    split at hc
    · rename_i ho; simp only [Bool.and_eq_true] at hc; exact aggEq_sound S ho (cmpOp_open hc.1.1.1) hc.1.1.2 hc.1.2 hc.2 hx
    · cases hc
  case errEq neq x =>
    split at hc
    · rename_i ho; simp only [Bool.and_eq_true] at hc; obtain ⟨ms, hms⟩ := isIface_open hc.1.2; exact errEq_sound S ho (cmpOp_open hc.1.1) hms hc.2 hx
    · cases hc
  case not x =>
    split at hc
    · rename_i ho; exact not_sound S ho hc hx
    · cases hc
  case neg k x =>
    split at hc
    · rename_i ho; exact neg_sound S ho hc hx
    · cases hc
  case alloc zs =>
    split at hc
    · rename_i ho; exact alloc_sound S ho hc hf hx
    · cases hc
  case box x =>
    split at hc
    · rename_i ho; exact box_sound S ho hc hf hx
    · cases hc
  case build zs ps =>
    split at hc
    · rename_i ho; simp only [Bool.and_eq_true] at hc; exact build_sound S ho hc.1.1 hc.1.2 hc.2 hf hx
    · cases hc
  case buildSlice e' sz ys =>
    split at hc
    · rename_i ho; simp only [Bool.and_eq_true, beq_iff_eq] at hc; exact buildSlice_sound S (by rw [ho, hc.1.1]) hc.1.2 hc.2 hx
    · cases hc
  case buildArr e' sz ys =>
    split at hc
    · rename_i ho; simp only [Bool.and_eq_true, beq_iff_eq] at hc; exact buildArr_sound S (by rw [ho, hc.1.1]) hc.1.2 hc.2 hf hx
    · cases hc
  case min xs =>
    split at hc
    · rename_i ho; exact min_sound S ho hc hx
    · cases hc
  case max xs =>
    split at hc
    · rename_i ho; exact max_sound S ho hc hx
    · cases hc
  case load agg k x =>
    split at hc
    · rename_i ho; simp only [Bool.and_eq_true] at hc; exact load_sound S ho hc.1.1.1 hc.1.1.2 (oneCell_open hc.1.2) hc.2 hx
    · cases hc
  case fieldAddr off x =>
    split at hc
    · rename_i ho
      split at hc
      · rename_i p _
        simp only [Bool.and_eq_true, Bool.not_eq_true', beq_eq_false_iff_ne, ne_eq] at hc
        exact fieldAddr_sound S ho hc.1.1 hc.1.2 hc.2 hx
      · cases hc
    · cases hc
  case field agg off k x =>
    split at hc
    · rename_i ho; simp only [Bool.and_eq_true] at hc; exact field_sound S ho hc.1.1.1 hc.1.1.2 (oneCell_open hc.1.2) hc.2 hx
    · cases hc
  case indexAddr sz x i =>
    split at hc
    · rename_i ho
      split at hc
      · simp only [Bool.and_eq_true] at hc; exact indexAddr_sound S ho hc.1.1 hc.1.2 hc.2 hx
      · cases hc
    · cases hc
  case indexCells len sz x i =>
    split at hc
    · rename_i ho
      simp only [Bool.and_eq_true, Bool.or_eq_true] at hc
      rcases hc.1.1 with h1 | h1
      · exact indexCells_sound S ho h1 hc.1.2 hc.2 hx
      · exact indexCells_sound S ho h1 hc.1.2 hc.2 hx
    · cases hc
  case index len sz agg x i =>
    split at hc
    · rename_i ho; simp only [Bool.and_eq_true] at hc; exact index_sound S ho hc.1.1.1 (oneCell_open hc.1.1.2) hc.1.2 hc.2 hx
    · cases hc
  case indexStr x i =>
    split at hc
    · rename_i ho; simp only [Bool.and_eq_true] at hc; exact indexStr_sound S ho (isStr_open hc.1.1) hc.1.2 hc.2 hx
    · cases hc
  case extract x i =>
    split at hc
    · rename_i ho; simp only [Bool.and_eq_true, beq_iff_eq] at hc; obtain ⟨rfl, h2⟩ := hc; exact extract_sound S ho h2 hx
    · cases hc
  case makeMap sz =>
    split at hc
    · rename_i ho; exact makeMap_sound S ho hf hx
    · cases hc
  case lookup sz ok zs x k =>
    split at hc
    · rename_i ho; simp only [Bool.and_eq_true, beq_iff_eq] at hc; obtain ⟨⟨⟨rfl, h1⟩, h2⟩, h3⟩ := hc; exact lookup_sound S ho h1 h2 h3 hx
    · cases hc
  case lenStr x =>
    split at hc
    · rename_i xs' ts ho
      split at hc
      · rename_i x' t h1 h2
        simp only [Bool.and_eq_true] at hc
        exact lenStr_sound S (by rw [ho, show xs' = #[x'] from Array.toList_inj.1 h1, show ts = #[t] from Array.toList_inj.1 h2]) (isStr_open hc.1) hc.2 hx
      · cases hc
    · cases hc
  case len x =>
    split at hc
    · rename_i xs' ts ho
      split at hc
      · rename_i x' t h1 h2
        simp only [Bool.and_eq_true] at hc
        obtain ⟨e', he⟩ := isSlice_open hc.1
        exact len_sound S (by rw [ho, show xs' = #[x'] from Array.toList_inj.1 h1, show ts = #[t] from Array.toList_inj.1 h2]) he hc.2 hx
      · cases hc
    · cases hc
  case cutStr x lo hi =>
    split at hc
    · rename_i ho; simp only [Bool.and_eq_true] at hc; exact cutStr_sound S ho (isStr_open hc.1.1.1) hc.1.1.2 hc.1.2 hc.2 hx
    · cases hc
  case cut sz x lo hi =>
    split at hc
    · rename_i ho
      split at hc
      · simp only [Bool.and_eq_true] at hc; exact cut_sound S ho hc.1.1.1 hc.1.1.2 hc.1.2 hc.2 hx
      · cases hc
    · cases hc
  case conv k x =>
    split at hc
    · rename_i ho; simp only [Bool.and_eq_true] at hc; exact conv_sound S ho hc.1.1 (isInt_open hc.1.2) hc.2 hx
    · cases hc
  case strBytes x =>
    split at hc
    · rename_i ho; simp only [Bool.and_eq_true] at hc; obtain ⟨e', h1, h2⟩ := isBytes_open hc.1.2; exact strBytes_sound S ho (isStr_open hc.1.1) h1 h2 hc.2 hx
    · cases hc
  case bytesStr x =>
    split at hc
    · rename_i ho; simp only [Bool.and_eq_true] at hc; obtain ⟨e', h1, h2⟩ := isBytes_open hc.1.1; exact bytesStr_sound S ho h1 (isStr_open hc.1.2) h2 hc.2 hx
    · cases hc
  case mkFn f first cap =>
    split at hc
    · rename_i ho; simp only [Bool.and_eq_true, beq_iff_eq] at hc; obtain ⟨⟨rfl, h1⟩, h2⟩ := hc; exact mkFn_sound S ho h1 h2 hx
    · cases hc
  case nilCheck x =>
    split at hc
    · rename_i ho; exact nilCheck_sound S ho hc hx
    · cases hc
  case makeSlice e' sz bytes zs x =>
    split at hc
    · rename_i ho
      split at hc
      · rename_i q hq
        simp only [Bool.and_eq_true, beq_iff_eq] at hc
        obtain ⟨⟨⟨rfl, h1⟩, h2⟩, h3⟩ := hc
        unfold elemIs at h1
        split at h1
        · rename_i i hi
          split at h1
          · rename_i z hz
            simp only [Bool.and_eq_true, beq_iff_eq] at h1
            exact makeSlice_sound S ho hq hi hz h1.1.1 h1.1.2 h1.2 h2 h3 hf hx
          · cases h1
        · cases h1
      · cases hc
    · cases hc
end
end Go.Vi
namespace Go.Vi
open Go.RowKit
set_option linter.unusedVariables false

def fdrop (e : EnvF) (p : C → Bool) : EnvF := fun t => match e t with
  | some v => if v.any p = true then none else some v
  | none => none
def fkillE (e : EnvF) (p : C → Bool) : EnvF := fun t => (e t).map (V.kill p)
def fkill (h : HeapF) (p : C → Bool) : HeapF := fun i => (h i).map (Obj.kill p)
def fgone (h : HeapF) (i : Nat) : HeapF := fun j => if j = i then none else h j
def fdels : HeapF → List Nat → HeapF
  | h, [] => h
  | h, i :: r => fdels (fgone (fkill h (C.refers i)) i) r
def fdrops : EnvF → List Nat → EnvF
  | e, [] => e
  | e, i :: r => fdrops (fdrop e (C.refers i)) r
def fkeep (e : EnvF) (l : List Nat) : EnvF := fun t => if has l t = true then e t else none

theorem nbeq (a b : Nat) : Nat.beq a b = decide (a = b) := by
  by_cases h : a = b
  · subst h; simp
  · simp only [h, decide_false]
    cases hb : Nat.beq a b with
    | false => rfl
    | true => exact absurd (Nat.eq_of_beq_eq_true hb) h

theorem Env.get_del (t s : Nat) : ∀ (e : Env), (e.del t).get s = if s = t then none else e.get s
  | [] => by simp [Env.del, Env.get]
  | (u, v) :: r => by
    have ih := Env.get_del t s r
    simp only [Env.del, nbeq]
    by_cases h : u = t
    · subst h
      simp only [decide_true, ih, Env.get, nbeq]
      by_cases hs : s = u
      · simp [hs]
      · simp [hs, Ne.symm hs]
    · simp only [h, decide_false, Env.get, nbeq, ih]
      by_cases hs : u = s
      · subst hs; simp [h]
      · simp [hs]
theorem Env.get_delF (t : Nat) (e : Env) : (e.del t).get = fdel e.get t := by
  funext s; rw [Env.get_del]; rfl
theorem Env.get_put (t : Nat) (v : V) (s : Nat) : ∀ (e : Env), (e.put t v).get s = if s = t then some v else e.get s
  | [] => by
    simp only [Env.put, Env.get, nbeq]
    by_cases h : t = s
    · subst h; simp
    · simp [h, Ne.symm h]
  | (u, x) :: r => by
    have ih := Env.get_put t v s r
    simp only [Env.put, nbeq]
    by_cases h : u = t
    · subst h
      simp only [decide_true, Env.get, nbeq]
      by_cases hs : u = s
      · subst hs; simp
      · simp [hs, Ne.symm hs]
    · simp only [h, decide_false]
      split
      · simp only [Env.get, nbeq]
        by_cases hs : t = s
        · subst hs; simp
        · simp [hs, Ne.symm hs]
      · simp only [Env.get, nbeq, ih]
        by_cases hs : u = s
        · subst hs; simp [h]
        · simp [hs]
theorem Env.get_putF (t : Nat) (v : V) (e : Env) : (e.put t v).get = fput e.get t v := by
  funext s; rw [Env.get_put]; rfl
theorem Env.get_puto (d : Option Nat) (v : V) (e : Env) : (e.puto d v).get = fputo e.get d v := by
  cases d with
  | none => rfl
  | some t => exact Env.get_putF t v e
theorem Env.get_delo (d : Option Nat) (e : Env) : (e.delo d).get = fdelo e.get d := by
  cases d with
  | none => rfl
  | some t => exact Env.get_delF t e
theorem Env.get_keep (l : List Nat) : ∀ (e : Env), (e.keep l).get = fkeep e.get l
  | [] => by funext s; simp [Env.keep, Env.get, fkeep]
  | (u, x) :: r => by
    have ih := Env.get_keep l r
    funext s
    simp only [Env.keep]
    split
    · rename_i hh
      simp only [Env.get, nbeq, fkeep, ih]
      by_cases hs : u = s
      · subst hs; simp [hh]
      · simp [hs]
    · rename_i hh
      rw [ih]
      simp only [fkeep, Env.get, nbeq]
      by_cases hs : u = s
      · subst hs; simp [hh]
      · simp [hs]
theorem Env.get_drop (p : C → Bool) : ∀ (e : Env), (e.drop p).get = fdrop e.get p
  | [] => by funext s; simp [Env.drop, Env.get, fdrop]
  | (u, x) :: r => by
    have ih := Env.get_drop p r
    funext s
    simp only [Env.drop]
    split
    · rename_i hh
      rw [Env.get_del, ih]
      simp only [fdrop, Env.get, nbeq]
      by_cases hs : u = s
      · subst hs; simp [hh]
      · simp [hs, Ne.symm hs]
    · rename_i hh
      simp only [Env.get, nbeq, fdrop, ih]
      by_cases hs : u = s
      · subst hs; simp [hh]
      · simp [hs]
theorem Env.get_kill (p : C → Bool) : ∀ (e : Env), (e.kill p).get = fkillE e.get p
  | [] => by funext j; simp [Env.kill, Env.get, fkillE]
  | (u, y) :: r => by
    have ih := Env.get_kill p r
    funext j
    simp only [Env.kill, Env.get, nbeq, fkillE, ih]
    by_cases hs : u = j <;> simp [hs]
theorem Env.get_drops : ∀ (l : List Nat) (e : Env), (e.drops l).get = fdrops e.get l
  | [], e => rfl
  | i :: r, e => by simp only [Env.drops, fdrops, Env.get_drops r, Env.get_drop]

theorem Heap.get_set (i : Nat) (o x : Obj) (j : Nat) : ∀ (h : Heap), h.get i = some x → (h.set i o).get j = if j = i then some o else h.get j
  | [], hx => by simp [Heap.get] at hx
  | (u, y) :: r, hx => by
    simp only [Heap.get, nbeq] at hx
    simp only [Heap.set, nbeq]
    by_cases h : u = i
    · subst h
      simp only [decide_true, Heap.get, nbeq]
      by_cases hs : u = j
      · subst hs; simp
      · simp [hs, Ne.symm hs]
    · simp only [h, decide_false] at hx ⊢
      have ih := Heap.get_set i o x j r hx
      simp only [Heap.get, nbeq, ih]
      by_cases hs : u = j
      · subst hs; simp [h]
      · simp [hs]
theorem Heap.get_setF {i : Nat} {o x : Obj} {h : Heap} (hx : h.get i = some x) : (h.set i o).get = fset h.get i o := by
  funext j; rw [Heap.get_set i o x j h hx]; rfl
theorem Heap.get_del (i : Nat) : ∀ (h : Heap), (h.del i).get = fgone h.get i
  | [] => by funext j; simp [Heap.del, Heap.get, fgone]
  | (u, y) :: r => by
    have ih := Heap.get_del i r
    funext j
    simp only [Heap.del, nbeq]
    by_cases h : u = i
    · subst h
      simp only [decide_true, ih, fgone, Heap.get, nbeq]
      by_cases hs : j = u
      · simp [hs]
      · simp [hs, Ne.symm hs]
    · simp only [h, decide_false, Heap.get, nbeq, ih, fgone]
      by_cases hs : u = j
      · subst hs; simp [h]
      · simp [hs]
theorem Heap.get_kill (p : C → Bool) : ∀ (h : Heap), (h.kill p).get = fkill h.get p
  | [] => by funext j; simp [Heap.kill, Heap.get, fkill]
  | (u, y) :: r => by
    have ih := Heap.get_kill p r
    funext j
    simp only [Heap.kill, Heap.get, nbeq, fkill, ih]
    by_cases hs : u = j <;> simp [hs]
theorem Heap.get_dels : ∀ (l : List Nat) (h : Heap), (h.dels l).get = fdels h.get l
  | [], h => rfl
  | i :: r, h => by simp only [Heap.dels, fdels, Heap.get_dels r, Heap.get_del, Heap.get_kill]
theorem Heap.get_append (n : Nat) (o : Obj) (j : Nat) : ∀ (h : Heap), h.get n = none → (h ++ [(n, o)]).get j = if j = n then some o else h.get j
  | [], _ => by
    simp only [List.nil_append, Heap.get, nbeq]
    by_cases hs : n = j
    · subst hs; simp
    · simp [hs, Ne.symm hs]
  | (u, y) :: r, hx => by
    simp only [Heap.get, nbeq] at hx
    by_cases hu : u = n
    · simp [hu] at hx
    · simp only [hu, decide_false] at hx
      have ih := Heap.get_append n o j r hx
      simp only [List.cons_append, Heap.get, nbeq, ih]
      by_cases hs : u = j
      · subst hs; simp [hu]
      · simp [hs]
/-- From a number on, none is told. -/
def Fresh (h : HeapF) (n : Nat) : Prop := ∀ id, n ≤ id → h id = none
theorem Fresh.le {h : HeapF} {n m : Nat} (hf : Fresh h n) (hm : n ≤ m) : Fresh h m := fun id hi => hf id (Nat.le_trans hm hi)
theorem Heap.get_new : ∀ (objs : List Obj) (h : Heap) (n : Nat), Fresh h.get n → (h.new n objs).get = fnew h.get n objs ∧ Fresh (h.new n objs).get (n + objs.length)
  | [], h, n, hf => ⟨(fnew_nil _ _).symm, hf⟩
  | o :: r, h, n, hf => by
    have h1 : (h ++ [(n, o)]).get = fset h.get n o := by
      funext j; rw [Heap.get_append n o j h (hf n (Nat.le_refl _))]; rfl
    have hf1 : Fresh (h ++ [(n, o)]).get (n + 1) := by
      intro id hi
      rw [h1]
      simp only [fset]
      rw [if_neg (by omega)]
      exact hf id (by omega)
    obtain ⟨h2, h3⟩ := Heap.get_new r (h ++ [(n, o)]) (n + 1) hf1
    refine ⟨?_, ?_⟩
    · rw [Heap.new, h2, h1]
      funext id
      simp only [fnew, fset, List.length_cons]
      by_cases hc : n + 1 ≤ id ∧ id < n + 1 + r.length
      · rw [if_pos hc, if_pos ⟨by omega, by omega⟩]
        rw [show id - n = (id - (n + 1)) + 1 by omega]
        simp
      · rw [if_neg hc]
        by_cases hn : id = n
        · subst hn
          rw [if_pos rfl, if_pos ⟨by omega, by omega⟩]
          simp
        · rw [if_neg hn, if_neg (by omega)]
    · intro id hi
      simp only [List.length_cons] at hi
      exact h3 id (by omega)

/-! ### an operation, on functions -/
section
variable (B : Prim) (G : Nat → List DV → R → Prop)
def exF (o : Op) (dst : Option Nat) (e : EnvF) (h : HeapF) (n : Nat) (K : EnvF → HeapF → Prop) : Prop :=
  match o with
  | .store _ k x y => ∃ c ag xs id ob, x.cell e = some c ∧ y.val e = some (.v ag xs) ∧ xs.length = k ∧ writeAt B h c xs = some (id, ob) ∧ K (fdelo e dst) (fset h id ob)
  | .append t sz bytes x y => ∃ d new, y.cell e = some d ∧ elems h d = some new ∧
      ((∃ id es, x.cell e = some (.own id) ∧ h id = some (.arr t sz es) ∧ B.fits bytes (B.app es new) = true ∧ (∀ cs ∈ new, cs.length = sz) ∧
          K (fputo (fkillE e (C.isOwn id)) dst (.v false [.own id])) (fset (fkill h (C.isOwn id)) id (.arr t sz (B.app es new)))) ∨
        (x = .nil ∧ B.fits bytes new = true ∧ (∀ cs ∈ new, cs.length = sz) ∧ K (fputo e dst (.v false [.own n])) (fnew h n [.arr t sz new])))
  | .call mode f args =>
      (mode = 0 ∧ ∃ ds r, dvs e args = some ds ∧ G f ds r ∧ K (fputo e dst r.v) h) ∨
      (mode = 1 ∧ ∃ ds is r, frozen e h args = some (ds, is) ∧ G f ds r ∧ r.scalar = true ∧ K (fputo e dst r.v) h) ∨
      (mode ≠ 0 ∧ mode ≠ 1 ∧ ∃ ds is r, frozen e h args = some (ds, is) ∧ G f ds r ∧ K (fputo (fdrops e is) dst r.v) (fdels h is))
  | .callV mode x args => ∃ c f first cap is, x.cell e = some c ∧ freezeC depth h c = some (.fn f first cap, is) ∧
      ((mode = 0 ∧ is = [] ∧ ∃ ds r, dvs e args = some ds ∧ G f (first ++ ds ++ cap.map (fun d => (false, [d]))) r ∧ K (fputo e dst r.v) h) ∨
       (mode ≠ 0 ∧ ∃ ds js r, frozen e h args = some (ds, js) ∧ G f (first ++ ds ++ cap.map (fun d => (false, [d]))) r ∧ r.scalar = true ∧ K (fputo e dst r.v) h))
  | .callH f args => ∃ x rest id t sz es ds is es', args = x :: rest ∧ x.cell e = some (.own id) ∧ h id = some (.arr t sz es) ∧ frozen e h rest = some (ds, is) ∧ id ∉ is ∧
      G f ((false, []) :: (false, [.row sz es]) :: ds) (.one (false, [.row sz es'])) ∧ K (fputo e dst (.tup [])) (fset h id (.arr t sz es'))
  | .callVH _ _ => False
  | .mapSet sz x k y => ∃ id s b cs q es, x.cell e = some (.lmap id) ∧ k.str e = some s ∧ y.val e = some (.v b (ofData cs)) ∧ h id = some (.map q es) ∧ q = sz ∧ b = isAgg' q ∧ K (fdelo e dst) (fset h id (.map q (B.upd es (.str s) cs)))
  | o => ∃ v objs, opF B e h n o = some (v, objs) ∧ K (fputo e dst v) (fnew h n objs)

theorem has_mem' : ∀ {l : List Nat} {s : Nat}, has l s = true ↔ s ∈ l
  | [], s => by simp [has]
  | t :: r, s => by
    simp only [has, nbeq]
    by_cases h : t = s
    · simp [h]
    · simp only [h, decide_false]
      rw [has_mem' (l := r)]
      simp [Ne.symm h]
theorem zeroO_length : ∀ (zs : List Zero), (zeroO zs).length = countN zs
  | [] => rfl
  | .d _ :: r => by simp [zeroO, countN, Zero.isNil, zeroO_length r]
  | .nil _ _ :: r => by simp [zeroO, countN, Zero.isNil, zeroO_length r]
theorem liftB_nil {b : Option Bool} {v : V} {objs : List Obj} (h : liftB b = some (v, objs)) : objs = [] := by
  cases b <;> simp [liftB] at h; exact h.2
theorem liftI_nil {k : IntKind} {b : Option Int} {v : V} {objs : List Obj} (h : liftI k b = some (v, objs)) : objs = [] := by
  cases b <;> simp [liftI] at h; exact h.2
theorem liftD_nil {b : Option D} {v : V} {objs : List Obj} (h : liftD b = some (v, objs)) : objs = [] := by
  cases b <;> simp [liftD] at h; exact h.2
theorem lift1_nil {b : D} {v : V} {objs : List Obj} (h : lift1 b = some (v, objs)) : objs = [] := by
  simp [lift1] at h; exact h.2
theorem found_nil {sz : Nat} {ok is : Bool} {cs : List D} {v : V} {objs : List Obj} (h : found sz ok is cs = some (v, objs)) : objs = [] := by
  cases ok <;> simp [found] at h <;> exact h.2
theorem opF_fresh {e : EnvF} {h : HeapF} {n : Nat} {o : Op} {v : V} {objs : List Obj} (hx : opF B e h n o = some (v, objs)) : objs.length ≤ o.fresh := by
  cases o <;> simp only [opF] at hx <;> (repeat' split at hx) <;>
    first
    | (cases hx; done)
    | (have := liftB_nil hx; subst this; exact Nat.zero_le _)
    | (have := liftI_nil hx; subst this; exact Nat.zero_le _)
    | (have := liftD_nil hx; subst this; exact Nat.zero_le _)
    | (have := lift1_nil hx; subst this; exact Nat.zero_le _)
    | (have := found_nil hx; subst this; exact Nat.zero_le _)
    | (cases hx; simp [Op.fresh, zeroO_length])

theorem dataL_ofData : ∀ {cs : List C} {ds : List D}, dataL cs = some ds → cs = ofData ds
  | [], ds, h => by simp [dataL] at h; subst h; rfl
  | c :: r, ds, h => by
    simp only [dataL] at h
    split at h
    · rename_i x hx
      split at h
      · rename_i xs hxs
        cases h
        cases c <;> simp only [C.data, Option.some.injEq, reduceCtorEq] at hx
        subst hx
        rw [dataL_ofData hxs]
        rfl
      · cases h
    · cases h
/-- On lists, on functions. -/
theorem exF_of_exOp {o : Op} {dst : Option Nat} {e : Env} {h : Heap} {n : Nat} {K : Cont} (hf : Fresh h.get n) (hx : exOp B G o dst e h n K) :
    exF B G o dst e.get h.get n (fun e' h' => ∃ el hl, e' = el.get ∧ h' = hl.get ∧ Fresh hl.get (n + o.fresh) ∧ K el hl (n + o.fresh)) := by
  have hset : ∀ {i : Nat} {o x : Obj} {h : Heap} {m : Nat}, Fresh h.get n → h.get i = some x → n ≤ m → Fresh (h.set i o).get m := by
    intro i o x h m hf hx hm id hi
    rw [Heap.get_setF hx]
    simp only [fset]
    by_cases he : id = i
    · subst he; rw [hf id (by omega)] at hx; cases hx
    · rw [if_neg he]; exact hf id (by omega)
  have key : ∀ o, (match opF B e.get h.get n o with
    | some (v, objs) => K (e.puto dst v) (h.new n objs) (n + o.fresh)
    | none => False) → ∃ v objs, opF B e.get h.get n o = some (v, objs) ∧ ∃ el hl, fputo e.get dst v = el.get ∧ fnew h.get n objs = hl.get ∧ Fresh hl.get (n + o.fresh) ∧ K el hl (n + o.fresh) := by
    intro o hk
    split at hk
    · rename_i v objs hv
      obtain ⟨h1, h2⟩ := Heap.get_new objs h n hf
      exact ⟨v, objs, hv, _, _, (Env.get_puto dst v e).symm, h1.symm, h2.le (Nat.add_le_add_left (opF_fresh B hv) n), hk⟩
    · exact hk.elim
  cases o
  case store ag k x y =>
    simp only [exOp] at hx
    split at hx
    · rename_i c ag' xs hc hy
      rw [nbeq] at hx
      by_cases hk : xs.length = k
      · simp only [hk, decide_true] at hx
        split at hx
        · rename_i id ob hw
          have hob : ∃ x, h.get id = some x := by
            unfold writeAt at hw
            repeat' split at hw
            all_goals first | (cases hw; done) | (cases hw; exact ⟨_, by assumption⟩)
          obtain ⟨x, hx'⟩ := hob
          exact ⟨c, ag', xs, id, ob, hc, hy, hk, hw, _, _, (Env.get_delo dst e).symm, (Heap.get_setF hx').symm, hset hf hx' (by simp [Op.fresh]), hx⟩
        · exact hx.elim
      · simp only [hk, decide_false] at hx
    · exact hx.elim
  case append t sz bytes x y =>
    simp only [exOp] at hx
    split at hx
    · rename_i d hd
      split at hx
      · rename_i new hnew
        refine ⟨d, new, hd, hnew, ?_⟩
        split at hx
        · obtain ⟨h1, h2⟩ := Heap.get_new [.arr t sz new] h n hf
          exact .inr ⟨rfl, hx.1, hx.2.1, _, _, (Env.get_puto dst _ e).symm, h1.symm, h2, hx.2.2⟩
        · split at hx
          · rename_i id hc
            split at hx
            · rename_i t' s es hid
              rw [nbeq] at hx
              by_cases ht : t' = t
              · subst ht
                simp only [decide_true] at hx
                rw [nbeq] at hx
                by_cases hs : s = sz
                · subst hs
                  simp only [decide_true] at hx
                  refine .inl ⟨id, es, hc, hid, hx.1, hx.2.1, _, _, ?_, ?_, ?_, hx.2.2⟩
                  · rw [Env.get_puto, Env.get_kill]
                  · rw [Heap.get_setF (x := (Obj.arr t' s es).kill (C.isOwn id)) (by rw [Heap.get_kill]; simp [fkill, hid]), Heap.get_kill]
                  · refine hset (x := (Obj.arr t' s es).kill (C.isOwn id)) ?_ (by rw [Heap.get_kill]; simp [fkill, hid]) (by simp [Op.fresh])
                    intro i hi
                    rw [Heap.get_kill]
                    simp [fkill, hf i hi]
                · simp only [hs, decide_false] at hx
              · simp only [ht, decide_false] at hx
            · exact hx.elim
          · exact hx.elim
      · exact hx.elim
    · exact hx.elim
  case call mode f args =>
    simp only [exOp] at hx
    split at hx
    · split at hx
      · rename_i ds hds
        obtain ⟨r, hg, hk⟩ := hx
        exact .inl ⟨rfl, ds, r, hds, hg, _, _, (Env.get_puto dst _ e).symm, rfl, hf.le (by simp [Op.fresh]), hk⟩
      · exact hx.elim
    · split at hx
      · rename_i ds is hds
        obtain ⟨r, hg, hs, hk⟩ := hx
        exact .inr (.inl ⟨rfl, ds, is, r, hds, hg, hs, _, _, (Env.get_puto dst _ e).symm, rfl, hf.le (by simp [Op.fresh]), hk⟩)
      · exact hx.elim
    · rename_i h0 h1
      split at hx
      · rename_i ds is hds
        obtain ⟨r, hg, hk⟩ := hx
        refine .inr (.inr ⟨h0, h1, ds, is, r, hds, hg, _, _, ?_, (Heap.get_dels is h).symm, ?_, hk⟩)
        · rw [Env.get_puto, Env.get_drops]
        · rw [Heap.get_dels]
          have : ∀ (is : List Nat) (h : HeapF) (m : Nat), Fresh h m → Fresh (fdels h is) m := by
            intro is
            induction is with
            | nil => exact fun h m hf => hf
            | cons i r ih =>
              intro h m hf
              refine ih _ _ fun id hi => ?_
              simp only [fgone, fkill, hf id hi]
              split <;> rfl
          exact this is h.get _ (hf.le (by simp [Op.fresh]))
      · exact hx.elim
  case callV mode x args =>
    simp only [exOp] at hx
    split at hx
    · rename_i c hc
      split at hx
      · rename_i f first cap is hfz
        refine ⟨c, f, first, cap, is, hc, hfz, ?_⟩
        split at hx
        · split at hx
          · rename_i ds hds
            obtain ⟨r, hg, hk⟩ := hx
            exact .inl ⟨rfl, rfl, ds, r, hds, hg, _, _, (Env.get_puto dst _ e).symm, rfl, hf.le (by simp [Op.fresh]), hk⟩
          · exact hx.elim
        · rename_i h0
          split at hx
          · rename_i ds js hds
            obtain ⟨r, hg, hs, hk⟩ := hx
            exact .inr ⟨h0, ds, js, r, hds, hg, hs, _, _, (Env.get_puto dst _ e).symm, rfl, hf.le (by simp [Op.fresh]), hk⟩
          · exact hx.elim
      · exact hx.elim
    · exact hx.elim
  case callH f args =>
    simp only [exOp] at hx
    split at hx
    · rename_i x rest
      split at hx
      · rename_i id hc
        split at hx
        · rename_i t sz es hid
          split at hx
          · rename_i ds is hfz
            split at hx
            · exact hx.elim
            · rename_i hhas
              obtain ⟨es', hg, hk⟩ := hx
              have hni : id ∉ is := fun hm => by rw [has_mem'.2 hm] at hhas; cases hhas
              exact ⟨x, rest, id, t, sz, es, ds, is, es', rfl, hc, hid, hfz, hni, hg, _, _, (Env.get_puto dst _ e).symm, (Heap.get_setF hid).symm, hset hf hid (by simp [Op.fresh]), hk⟩
          · exact hx.elim
        · exact hx.elim
      · exact hx.elim
    · exact hx.elim
  case mapSet sz x k y =>
    simp only [exOp] at hx
    split at hx
    · rename_i c s v hc hs hy
      split at hx
      · rename_i id b cs hv
        split at hx
        · rename_i q es hid
          rw [nbeq] at hx
          by_cases hq : q = sz
          · simp only [hq, decide_true] at hx
            have hv' : v = .v b (ofData cs) := by
              cases v with
              | v b' cs' =>
                simp only [V.dv] at hv
                split at hv
                · rename_i l hl
                  cases hv
                  rw [dataL_ofData hl]
                · cases hv
              | tup _ => cases hv
            subst hv'
            subst hq
            split at hx
            · rename_i hb
              have hb' : b = isAgg' q := by
                generalize isAgg' q = b' at hb
                cases b <;> cases b' <;> first | rfl | cases hb
              exact ⟨id, s, b, cs, q, es, hc, hs, hy, hid, rfl, hb', _, _, (Env.get_delo dst e).symm, (Heap.get_setF hid).symm, hset hf hid (by simp [Op.fresh]), hx⟩
            · exact hx.elim
          · simp only [hq, decide_false] at hx
        · exact hx.elim
      · exact hx.elim
    · exact hx.elim
  case callVH x args => exact hx
  all_goals exact key _ hx
end
end Go.Vi
namespace Go.Vi
open Go.RowKit
set_option linter.unusedVariables false

section
variable {P : Program} {w0 : World} {B0 M0 : Nat → Prop} {N : Nat} {μ μ' : Nat → Value} {e : EnvF} {h : HeapF} {a : Act} {w w' : World}

theorem Obj.sh_kill (p : C → Bool) (o : Obj) : (o.kill p).sh = o.sh := by cases o <;> rfl
theorem fkill_sh (h : HeapF) (p : C → Bool) : shapes (fkill h p) = shapes h := by
  funext i
  unfold shapes fkill
  cases h i with
  | none => rfl
  | some o => simp [Obj.sh_kill]
theorem anyC_false : ∀ (cs : List C), anyC (fun _ => false) cs = false
  | [] => rfl
  | _ :: r => by simp [anyC, anyC_false r]
theorem anyP_false : ∀ (vs : List (Bool × List C)), anyP (fun _ => false) vs = false
  | [] => rfl
  | (_, cs) :: r => by simp [anyP, anyC_false, anyP_false r]
theorem V.any_false (v : V) : v.any (fun _ => false) = false := by cases v <;> simp [V.any, anyC_false, anyP_false]
theorem fdrop_false (e : EnvF) : fdrop e (fun _ => false) = e := by
  funext t
  unfold fdrop
  cases e t with
  | none => rfl
  | some v => simp [V.any_false]
theorem killL_false : ∀ (cs : List C), killL (fun _ => false) cs = cs
  | [] => rfl
  | _ :: r => by simp [killL, killL_false r]
theorem V.kill_false (v : V) : v.kill (fun _ => false) = v := by
  have key : ∀ vs : List (Bool × List C), killT (fun _ => false) vs = vs := by
    intro vs
    induction vs with
    | nil => rfl
    | cons x r ih => obtain ⟨b, cs⟩ := x; simp [killT, killL_false, ih]
  cases v <;> simp [V.kill, killL_false, key]
theorem Env.kill_false : ∀ (e : Env), e.kill (fun _ => false) = e
  | [] => rfl
  | (t, v) :: r => by simp [Env.kill, V.kill_false, Env.kill_false r]
theorem fkill_false (h : HeapF) : fkill h (fun _ => false) = h := by
  funext i
  unfold fkill
  cases h i with
  | none => rfl
  | some o => cases o <;> simp [Obj.kill, killL_false, Env.kill_false]
theorem fdrop_some {p : C → Bool} {t : Nat} {v : V} (h : fdrop e p t = some v) : e t = some v ∧ v.any p = false := by
  unfold fdrop at h
  split at h
  · rename_i x hx
    split at h
    · cases h
    · rename_i hp
      cases h
      exact ⟨hx, by simpa using hp⟩
  · cases h
theorem fkill_some {p : C → Bool} {i : Nat} {o : Obj} (hx : fkill h p i = some o) : ∃ o', h i = some o' ∧ o = o'.kill p := by
  unfold fkill at hx
  cases hi : h i with
  | none => simp [hi] at hx
  | some o' => rw [hi] at hx; exact ⟨o', rfl, by simpa using hx.symm⟩

theorem fkillE_false (e : EnvF) : fkillE e (fun _ => false) = e := by
  funext t
  unfold fkillE
  cases e t with
  | none => rfl
  | some v => simp [V.kill_false]
theorem fkillE_some {p : C → Bool} {t : Nat} {v : V} (h : fkillE e p t = some v) : ∃ v0, e t = some v0 ∧ v = v0.kill p := by
  unfold fkillE at h
  cases ht : e t with
  | none => simp [ht] at h
  | some v0 => rw [ht] at h; exact ⟨v0, rfl, by simpa using h.symm⟩
theorem V.any_clean {p : C → Bool} {x : V} (hp : x.any p = false) : match x with
    | .v _ cs => ∀ c ∈ cs, p c = false
    | .tup vs => ∀ q ∈ vs, ∀ c ∈ q.2, p c = false := by
  cases x with
  | v b cs => exact anyC_mem hp
  | tup vs => exact fun q hq => anyC_mem (anyP_mem hp q hq)

/-- Of a value each cell by itself. -/
theorem RV.imp {M M' : Nat → Prop} {s s' : Nat → Option Sh} {p : C → Bool} {x : V} {v : Value} (hr : RV M w μ s x v) (hp : x.any p = false) (hc : ∀ c u, p c = false → RC M w μ s c u → RC M' w' μ' s' c u) : RV M' w' μ' s' x v := by
  have h0 := V.any_clean hp
  cases x with
  | v b cs =>
    obtain ⟨us, h1, h2, h3⟩ := hr
    exact ⟨us, h1.mono_mem fun c hm u hu => hc c u (h0 c hm) hu, h2, h3⟩
  | tup vs =>
    obtain ⟨us, h1, h2⟩ := hr
    refine ⟨us, h1, h2.mono_mem fun q hq u hu => ?_⟩
    obtain ⟨xs, h3, h4, h5⟩ := hu
    exact ⟨xs, h3.mono_mem fun c hm u hu => hc c u (h0 q hq c hm) hu, h4, h5⟩
theorem killL_all {p : C → Bool} {R R' : C → Value → Prop} (hc : ∀ c u, p c = false → R c u → R' c u) (hd : ∀ c u, R c u → R' .dead u) : ∀ {cs : List C} {us : List Value}, All2 R cs us → All2 R' (killL p cs) us
  | [], [], _ => trivial
  | c :: cs, u :: us, hr => by
    simp only [killL]
    split
    · exact ⟨hd c u hr.1, killL_all hc hd hr.2⟩
    · rename_i hp
      exact ⟨hc c u hp hr.1, killL_all hc hd hr.2⟩

theorem RV.killed {M M' : Nat → Prop} {s s' : Nat → Option Sh} {p : C → Bool} {x : V} {v : Value} (hr : RV M w μ s x v) (hc : ∀ c u, p c = false → RC M w μ s c u → RC M' w' μ' s' c u) (hd : ∀ c u, RC M w μ s c u → RC M' w' μ' s' .dead u) : RV M' w' μ' s' (x.kill p) v := by
  cases x with
  | v b cs =>
    obtain ⟨us, h1, h2, h3⟩ := hr
    exact ⟨us, killL_all hc hd h1, h2, h3⟩
  | tup vs =>
    obtain ⟨us, h1, h2⟩ := hr
    refine ⟨us, h1, ?_⟩
    have key : ∀ {vs : List (Bool × List C)} {us : List Value}, All2 (fun p u => ∃ xs, All2 (RC M w μ s) p.2 xs ∧ okLen p.1 xs.length ∧ u = mkV p.1 xs) vs us → All2 (fun p u => ∃ xs, All2 (RC M' w' μ' s') p.2 xs ∧ okLen p.1 xs.length ∧ u = mkV p.1 xs) (killT p vs) us := by
      intro vs
      induction vs with
      | nil => intro us h; cases us with
        | nil => trivial
        | cons _ _ => exact h.elim
      | cons y r ih =>
        intro us h
        obtain ⟨b, cs⟩ := y
        match us, h with
        | u :: us, h =>
          obtain ⟨xs, h3, h4, h5⟩ := h.1
          exact ⟨⟨xs, killL_all hc hd h3, h4, h5⟩, ih h.2⟩
    exact key h2
theorem blkOf_own {v : Value} {t sz n : Nat} {xs : List Value} (ho : w.ownsRow 0 t sz v n xs) : v.ownBlock = blkOf v := by
  rcases ho.2 with ⟨rfl, _⟩ | ⟨g, cap, cur, rfl, _⟩ <;> rfl

/-- An object's block holds no deferred calls. -/
theorem OOk.notDef {M : Nat → Prop} {s : Nat → Option Sh} {v : Value} {ob : Obj} {k : Nat} (ho : OOk M w μ s v ob) (hk : blkOf v = some k) : isDef w.heap[k]? = false := by
  cases ob with
  | blk cs =>
    obtain ⟨g, t, us, rfl, h2, _⟩ := ho
    simp only [blkOf, Option.some.injEq] at hk
    subst hk
    rw [h2]; rfl
  | arr ty sz es =>
    obtain ⟨_, xs, h4, _⟩ := ho
    rcases h4.2 with ⟨rfl, _⟩ | ⟨g, cap, cur, rfl, _, hg, _⟩
    · cases hk
    · simp only [blkOf, Option.some.injEq] at hk
      subst hk
      rw [hg]; rfl
  | map sz es =>
    obtain ⟨r, ents, clock, rfl, h4, _⟩ := ho
    simp only [blkOf, Option.some.injEq] at hk
    subst hk
    rw [h4]; rfl
  | saved tm se => obtain ⟨rfl, _⟩ := ho; cases hk
  | lp l ρ st p =>
    obtain ⟨rfl, h4⟩ := ho
    simp only [blkOf, Option.some.injEq] at hk
    subst hk
    rw [h4]; rfl

/-- **An object turns.** -/
theorem Sim.turn (S : Sim w0 B0 M0 N μ e h a w) {id : Nat} {ob ob' : Obj} {p : C → Bool} {chg : Nat → Prop} (hid : h id = some ob) (hpc : ∀ c, p c = false → ∀ i, c.isOwn i = true → ¬ chg i) (hchg : ∀ i, chg i → i = id)
    (hsh : ¬ chg id → μ' id = μ id ∧ ob'.sh = ob.sh) (hkind : chg id → ∃ sz len, ob.sh = .a sz len) (hμ : ∀ i, i ≠ id → μ' i = μ i)
    (hos : w'.os = w.os) (htape : w'.tape = w.tape) (hout : w'.output = w.output) (hsize : w.heap.size ≤ w'.heap.size) (hblock : ∀ k, k < w.heap.size → blkOf (μ id) ≠ some k → w'.heap[k]? = w.heap[k]?)
    (hblk : ∀ k, blkOf (μ' id) = some k → (blkOf (μ id) = some k ∨ w.heap.size ≤ k) ∧ k < w'.heap.size)
    (hok : (∀ d v, RD (Mut M0 μ h) w d v → RD (Mut M0 μ' (fset (fkill h p) id ob')) w' d v) → (∀ c v, p c = false → RC (Mut M0 μ h) w μ (shapes h) c v → RC (Mut M0 μ' (fset (fkill h p) id ob')) w' μ' (shapes (fset (fkill h p) id ob')) c v) →
      OOk (Mut M0 μ' (fset (fkill h p) id ob')) w' μ' (shapes (fset (fkill h p) id ob')) (μ' id) ob') :
    Sim w0 B0 M0 N μ' (fkillE e p) (fset (fkill h p) id ob') a w' ∧ (∀ d v, RD (Mut M0 μ h) w d v → RD (Mut M0 μ' (fset (fkill h p) id ob')) w' d v) ∧
      (∀ c v, p c = false → RC (Mut M0 μ h) w μ (shapes h) c v → RC (Mut M0 μ' (fset (fkill h p) id ob')) w' μ' (shapes (fset (fkill h p) id ob')) c v) := by
  have hinv : ∀ i o, fset (fkill h p) id ob' i = some o → (i = id ∧ o = ob') ∨ (i ≠ id ∧ ∃ o', h i = some o' ∧ o = o'.kill p) := by
    intro i o hi
    unfold fset at hi
    split at hi
    · rename_i he; cases hi; exact .inl ⟨he, rfl⟩
    · rename_i he; exact .inr ⟨he, fkill_some hi⟩
  have hM : ∀ k, k < w.heap.size → Mut M0 μ' (fset (fkill h p) id ob') k → Mut M0 μ h k := by
    rintro k hk (h1 | ⟨i, o, h1, h2⟩)
    · exact .inl h1
    · rcases hinv i o h1 with ⟨rfl, rfl⟩ | ⟨hne, o', h3, rfl⟩
      · rcases (hblk k h2).1 with h4 | h4
        · exact .inr ⟨i, ob, hid, h4⟩
        · omega
      · exact .inr ⟨i, o', h3, by rw [← hμ i hne]; exact h2⟩
  have hL : Leaves (Mut M0 μ h) w w' := ⟨hsize, fun k hk hm _ => hblock k hk fun hb => hm (.inr ⟨id, ob, hid, hb⟩)⟩
  have hdef : ∀ D : Nat, w.heap[D]? = some (Go.Obj.deferred (some [])) → w'.heap[D]? = some (Go.Obj.deferred (some [])) := fun D hD =>
    (hblock D (Array.getElem?_eq_some_iff.1 hD).1 fun hb => by have := (S.heap id ob hid).notDef hb; rw [hD] at this; cases this).trans hD
  have hs' : ∀ i, i ≠ id → shapes (fset (fkill h p) id ob') i = shapes h i := by
    intro i hi
    have : shapes (fset (fkill h p) id ob') i = shapes (fkill h p) i := by unfold shapes fset; rw [if_neg hi]
    rw [this, fkill_sh]
  have hA : ∀ i x, shapes h i = some x → ¬ chg i → shapes (fset (fkill h p) id ob') i = some x ∧ μ' i = μ i := by
    intro i x hx hc
    by_cases hi : i = id
    · subst hi
      obtain ⟨h1, h2⟩ := hsh hc
      refine ⟨?_, h1⟩
      have : shapes (fset (fkill h p) i ob') i = some ob'.sh := by simp [shapes, fset]
      rw [this, h2]
      simpa [shapes, hid] using hx
    · exact ⟨by rw [hs' i hi]; exact hx, hμ i hi⟩
  have hnot : ∀ i x, shapes h i = some x → (∀ sz len, x ≠ .a sz len) → ¬ chg i := by
    intro i x hx hne hc
    have := hchg i hc
    subst this
    obtain ⟨sz, len, h1⟩ := hkind hc
    simp [shapes, hid] at hx
    exact hne sz len (hx ▸ h1)
  have hRD : ∀ d v, RD (Mut M0 μ h) w d v → RD (Mut M0 μ' (fset (fkill h p) id ob')) w' d v := fun d v hr => hr.step hL hM
  have hRC : ∀ c v, p c = false → RC (Mut M0 μ h) w μ (shapes h) c v → RC (Mut M0 μ' (fset (fkill h p) id ob')) w' μ' (shapes (fset (fkill h p) id ob')) c v := fun c v hp hr =>
    hr.step hL hM hA (fun i hi => hnot i _ hi (by simp)) (fun i hi => hnot i _ hi (by simp)) (hpc c hp)
  have hbl : ∀ i o k, i ≠ id → h i = some o → blkOf (μ i) = some k → w'.heap[k]? = w.heap[k]? := fun i o k hne hi hb =>
    hblock k (S.own i o k hi hb).2.1 fun hb' => hne (S.inj i id o ob k hi hid hb hb')
  refine ⟨⟨S.tmps, S.defers.step hdef, ?_, ?_, ?_, ?_, S.old, hos.trans S.os, htape.trans S.tape, hout.trans S.output, Nat.le_trans S.size hsize, ?_⟩, hRD, hRC⟩
  · intro t v hv
    obtain ⟨v0, h1, rfl⟩ := fkillE_some hv
    obtain ⟨u, h3, h4⟩ := S.env t v0 h1
    exact ⟨u, h3, h4.killed hRC fun c u hr => RC.one S hr⟩
  · intro i o hi
    rcases hinv i o hi with ⟨rfl, rfl⟩ | ⟨hne, o', h3, rfl⟩
    · exact hok hRD hRC
    · rw [hμ i hne]
      have h4 := S.heap i o' h3
      cases o' with
      | blk cs =>
        obtain ⟨g, t, us, h5, h6, h7⟩ := h4
        refine ⟨g, t, us, h5, ?_, killL_all hRC (fun c u hr => ?_) h7⟩
        · rw [hbl i _ g hne h3 (by rw [h5]; rfl)]; exact h6
        · exact RC.one S hr
      | arr ty sz es =>
        obtain ⟨h5, xs, h6, h7⟩ := h4
        refine ⟨h5, xs, ?_, h7.mono hRD⟩
        refine h6.kept (row := blkOf (μ id)) ⟨hos, htape, hout, hsize, fun k hk hne' => hblock k hk (fun hb => hne' hb.symm)⟩ ?_
        rw [blkOf_own h6]
        cases hb : blkOf (μ i) with
        | none => exact .inl rfl
        | some k => exact .inr fun hb' => hne (S.inj i id _ ob k h3 hid hb hb'.symm)
      | map sz es =>
        obtain ⟨r, ents, clock, h5, h6, h7⟩ := h4
        refine ⟨r, ents, clock, h5, ?_, h7.step hRD⟩
        rw [hbl i _ r hne h3 (by rw [h5]; rfl)]; exact h6
      | saved tm se =>
        refine ⟨h4.1, h4.2.1.imp fun _ hd => hd.step hdef, fun t x hx => ?_⟩
        rw [Env.get_kill] at hx
        obtain ⟨x0, h5, rfl⟩ := fkillE_some hx
        obtain ⟨u, h6, h7⟩ := h4.2.2 t x0 h5
        exact ⟨u, h6, h7.killed hRC fun c u hr => RC.one S hr⟩
      | lp l ρ st q =>
        refine ⟨h4.1, ?_⟩
        rw [hbl i _ l hne h3 (by rw [h4.1]; rfl)]; exact h4.2
  · intro i j o q k hi hj hbi hbj
    rcases hinv i o hi with ⟨rfl, rfl⟩ | ⟨hne, o', h3, rfl⟩ <;> rcases hinv j q hj with ⟨rfl, rfl⟩ | ⟨hne', q', h4, rfl⟩
    · rfl
    · rw [hμ j hne'] at hbj
      rcases (hblk k hbi).1 with h5 | h5
      · exact S.inj i j ob q' k hid h4 h5 hbj
      · exact absurd (S.own j q' k h4 hbj).2.1 (by omega)
    · rw [hμ i hne] at hbi
      rcases (hblk k hbj).1 with h5 | h5
      · exact S.inj i j o' ob k h3 hid hbi h5
      · exact absurd (S.own i o' k h3 hbi).2.1 (by omega)
    · rw [hμ i hne] at hbi
      rw [hμ j hne'] at hbj
      exact S.inj i j o' q' k h3 h4 hbi hbj
  · intro i o k hi hb
    rcases hinv i o hi with ⟨rfl, rfl⟩ | ⟨hne, o', h3, rfl⟩
    · obtain ⟨h1, h2⟩ := hblk k hb
      rcases h1 with h1 | h1
      · obtain ⟨h5, h6, h7⟩ := S.own i ob k hid h1
        exact ⟨h5, h2, h7⟩
      · exact ⟨.inr (Nat.le_trans S.size h1), h2, fun hm => by have := S.old k hm; have := S.size; omega⟩
    · rw [hμ i hne] at hb
      obtain ⟨h5, h6, h7⟩ := S.own i o' k h3 hb
      exact ⟨h5, Nat.lt_of_lt_of_le h6 hsize, h7⟩
  · intro k hk hB
    rw [hblock k (Nat.lt_of_lt_of_le hk S.size) (fun hb => ?_)]
    · exact S.frame k hk hB
    · rcases (S.own id ob k hid hb).1 with h1 | h1
      · exact hB h1
      · omega
end
end Go.Vi
namespace Go.Vi
open Go.RowKit
set_option linter.unusedVariables false

section
variable {α β : Type} {R : α → β → Prop}
theorem All2.set : ∀ {as : List α} {bs : List β} (j : Nat) {x : α} {y : β}, All2 R as bs → R x y → All2 R (as.set j x) (bs.set j y)
  | [], [], j, _, _, _, _ => trivial
  | _ :: _, _ :: _, 0, _, _, h, hr => ⟨hr, h.2⟩
  | _ :: _, _ :: _, j + 1, _, _, h, hr => ⟨h.1, All2.set j h.2 hr⟩
theorem flatten_set {sz : Nat} : ∀ {es : List (List α)} (i off : Nat) (cs : List α) (x : α), (∀ c ∈ es, c.length = sz) → es[i]? = some cs → off < cs.length →
    (es.set i (cs.set off x)).flatten = es.flatten.set (i * sz + off) x
  | [], i, off, cs, x, _, h, _ => by simp at h
  | c :: es, 0, off, cs, x, hs, h, ho => by
    simp at h
    subst h
    simp [List.set_append, ho]
  | c :: es, i + 1, off, cs, x, hs, h, ho => by
    have hc : c.length = sz := hs c List.mem_cons_self
    have ih := flatten_set (es := es) i off cs x (fun c hc => hs c (List.mem_cons_of_mem _ hc)) (by simpa using h) ho
    simp only [List.set_cons_succ, List.flatten_cons, ih, List.set_append]
    rw [if_neg (by rw [hc, Nat.add_mul]; omega)]
    congr 2
    rw [hc, Nat.add_mul]
    omega
end

section
variable {P : Program} {w0 : World} {B0 M0 : Nat → Prop} {N : Nat} {μ μ' : Nat → Value} {e : EnvF} {h : HeapF} {a : Act} {w w' : World}

theorem run_storeAt_row {t : TypeId} {k g o : Nat} {ty : TypeId} {cur : Array Value} {u : Value} (hs : sizeIs P t k = true) (hu : u.cells.toList.length = k) (h1 : ∀ v ∈ u.cells.toList, v.oneCell' = true)
    (hg : w.heap[g]? = some (.cells cur ty (0, 0))) (hl : o + k ≤ cur.size) :
    (Instr.storeAt t (.pointer (some ⟨g, o, none⟩)) u).run P w = .ok () (w.setRow g (cur.toList.take o ++ u.cells.toList ++ cur.toList.drop (o + k)).toArray) := by
  have hst := run_storeCells_at P g o ty u.cells.toList 0 cur w hg (by omega) h1
  simp only [Nat.add_zero, hu] at hst
  have hz : u.cells.size = k := by simpa using hu
  simp [Instr.storeAt, Instr.sureAddr, storeVar, sizeIs_run hs, hz, hst]

theorem Sim.turn0 (S : Sim w0 B0 M0 N μ e h a w) {id : Nat} {ob ob' : Obj} (hid : h id = some ob) (hsh : ob'.sh = ob.sh)
    (hos : w'.os = w.os) (htape : w'.tape = w.tape) (hout : w'.output = w.output) (hsize : w.heap.size = w'.heap.size) (hblock : ∀ k, k < w.heap.size → blkOf (μ id) ≠ some k → w'.heap[k]? = w.heap[k]?)
    (hok : (∀ d v, RD (Mut M0 μ h) w d v → RD (Mut M0 μ (fset h id ob')) w' d v) → (∀ c v, RC (Mut M0 μ h) w μ (shapes h) c v → RC (Mut M0 μ (fset h id ob')) w' μ (shapes (fset h id ob')) c v) →
      OOk (Mut M0 μ (fset h id ob')) w' μ (shapes (fset h id ob')) (μ id) ob') : Sim w0 B0 M0 N μ e (fset h id ob') a w' := by
  have := (S.turn (μ' := μ) (w' := w') (ob' := ob') (p := fun _ => false) (chg := fun _ => False) hid (fun _ _ _ _ => _root_.id) (fun _ => False.elim) (fun _ => ⟨rfl, hsh⟩) False.elim (fun _ _ => rfl) hos htape hout (Nat.le_of_eq hsize) hblock
    (fun k hk => ⟨.inl hk, by rw [← hsize]; exact (S.own id ob k hid hk).2.1⟩) (by rw [fkill_false]; exact fun h1 h2 => hok h1 fun c v => h2 c v rfl)).1
  rwa [fkillE_false, fkill_false] at this

/-- A store: what it comes to. -/
theorem store_sound (S : Sim w0 B0 M0 N μ e h a w) {o : Go.Oper} {t : TypeId} {k : Nat} {x y : Operand} {x' y' : Arg} (ho : o.op = .store t x y) (hs : sizeIs P t k = true) (h0 : 0 < k) (h2 : argOk x x' = true) (h3 : argOk y y' = true)
    {c : C} {ag : Bool} {xs : List C} {id : Nat} {ob : Obj} (hc : x'.cell e = some c) (hy : y'.val e = some (.v ag xs)) (hk : xs.length = k) (hw : writeAt prims h c xs = some (id, ob)) :
    ∃ w', (execOp a.eval o).run P w = .ok .skip w' ∧ Sim w0 B0 M0 N μ e (fset h id ob) a w' := by
  have hcell := S.cell h2 hc
  have hcs := RV.cells S (S.arg h3 hy)
  have hlen : (a.eval y).cells.toList.length = k := by rw [← hcs.length, hk]
  have hone : ∀ v ∈ (a.eval y).cells.toList, v.oneCell' = true := by
    intro v hv
    obtain ⟨j, hj⟩ := List.getElem?_of_mem hv
    have hj2 : j < xs.length := by rw [hcs.length]; exact (List.getElem?_eq_some_iff.1 hj).1
    obtain ⟨u, h4, h5⟩ := hcs.get j _ (List.getElem?_eq_getElem hj2)
    rw [hj] at h4
    cases h4
    exact RC.one S h5
  have hne : xs ≠ [] := by intro h; rw [h] at hk; simp at hk; omega
  cases c with
  | loc i off =>
    simp only [writeAt] at hw
    split at hw
    · rename_i cs hi
      split at hw
      · rename_i r hr
        cases hw
        obtain ⟨h4, g, h5, h6⟩ := hcell
        obtain ⟨g', ty, us, h7, h8, h9⟩ := S.heap id _ hi
        rw [h5] at h7
        have : g = g' := by simpa using h7
        subst this
        rcases setL_all hr h9 hcs with ⟨h10, h11⟩ | ⟨h10, _⟩
        case inr => exact absurd h10 hne
        rw [hlen] at h10 h11
        have hfit : off + k ≤ us.size := by simpa using h11
        refine ⟨_, ?_, S.turn0 (w' := w.setRow g (us.toList.take off ++ (a.eval y).cells.toList ++ us.toList.drop (off + k)).toArray) hi rfl rfl rfl rfl (by simp) (fun q hq hb => setRow_other w g q _ (fun he => hb (by rw [h5, he]; rfl))) fun hd hc => ?_⟩
        · simp [execOp, ho, h6, run_storeAt_row hs hlen hone h8 hfit]
        · exact ⟨g, ty, _, h5, setRow_heap w g us _ ty _ h8, h10.mono fun c v => hc c v⟩
      · cases hw
    · cases hw
  | el i j off =>
    simp only [writeAt] at hw
    split at hw
    · rename_i ty sz es hi
      split at hw
      · rename_i d
        split at hw
        · rename_i r hr
          cases hw
          obtain ⟨sz', len, g, cap, h4, h5, h6, h7, h8⟩ := hcell
          simp [shapes, hi, Obj.sh] at h4
          obtain ⟨rfl, rfl⟩ := h4
          obtain ⟨h9, zs, h10, h11⟩ := S.heap id _ hi
          simp only [prims] at hr
          rw [if_pos h5] at hr
          split at hr
          · rename_i cs hcs'
            split at hr
            · rename_i hoff
              cases hr
              simp only [List.length_singleton] at hk
              subst hk
              match hys : (a.eval y).cells.toList, hcs, hlen with
              | [u], hcs, _ =>
                have hu : RD (Mut M0 μ h) w d u := hcs.1
                rcases h10.2 with ⟨h12, h13⟩ | ⟨g', cap', cur, h12, _, h13, h14, h15, h16, h17⟩
                · rw [h7] at h12; cases h12
                · rw [h7] at h12
                  have h12' : g = g' ∧ cap = cap' := by simpa using h12
                  obtain ⟨rfl, rfl⟩ := h12'
                  have hsz : cs.length = sz := h9 cs (List.mem_of_getElem? hcs')
                  have hjl : j.toNat < es.length := (List.getElem?_eq_some_iff.1 hcs').1
                  have hp : j.toNat * sz + off < es.length * sz := by
                    have := Nat.mul_le_mul_right sz (show j.toNat + 1 ≤ es.length from hjl)
                    rw [Nat.add_mul] at this
                    omega
                  have hp2 : es.length * sz ≤ cur.size := by rw [h16]; exact Nat.mul_le_mul_right _ h14
                  have hrow : (cur.toList.take (j.toNat * sz + off) ++ [u] ++ cur.toList.drop (j.toNat * sz + off + 1)) = cur.toList.set (j.toNat * sz + off) u := by
                    rw [List.set_eq_take_append_cons_drop, if_pos (by simp; omega)]
                    simp
                  refine ⟨_, ?_, S.turn0 (w' := w.setRow g (cur.toList.set (j.toNat * sz + off) u).toArray) hi (by simp [Obj.sh]) rfl rfl rfl (by simp) (fun q hq hb => setRow_other w g q _ (fun he => hb (by rw [h7, he]; rfl))) fun hd hc => ?_⟩
                  · have := run_storeAt_row (w := w) (g := g) (o := j.toNat * sz + off) (u := a.eval y) hs (by rw [hys]; rfl) (by rw [hys] at hone ⊢; exact hone) h13 (by omega)
                    rw [hys, hrow] at this
                    simp [execOp, ho, h8, this]
                  · refine ⟨?_, zs.set (j.toNat * sz + off) u, ⟨by simpa using h10.1, .inr ⟨g, cap, _, by simpa using h7, Nat.zero_le _, setRow_heap w g cur _ ty _ h13, by simpa using h14, h15, by simpa using h16, ?_⟩⟩, ?_⟩
                    · intro c hc
                      rcases List.mem_or_eq_of_mem_set hc with h18 | rfl
                      · exact h9 c h18
                      · simpa using hsz
                    · simp only [List.length_set]
                      rw [← h17, List.take_set]
                    · rw [flatten_set j.toNat off cs d h9 hcs' hoff]
                      exact (h11.mono hd).set _ (hd _ _ hu)
            · cases hr
          · cases hr
        · cases hw
      · cases hw
    · cases hw
  | d _ => cases hw
  | own _ => cases hw
  | fn _ _ _ => cases hw
  | lmap _ => cases hw
  | dead => cases hw
end
end Go.Vi
namespace Go.Vi
open Go.RowKit
set_option linter.unusedVariables false

section
variable {P : Program} {w0 : World} {B0 M0 : Nat → Prop} {N : Nat} {μ μ' : Nat → Value} {e : EnvF} {h : HeapF} {a : Act} {w w' : World} {n : Nat}

/-- What an append's second operand gives. -/
theorem elems_cells (S : Sim w0 B0 M0 N μ e h a w) {d : C} {new : List (List D)} {sz : Nat} {v : Value} (hd : RC (Mut M0 μ h) w μ (shapes h) d v) (he : elems h d = some new) (hs : ∀ cs ∈ new, cs.length = sz) :
    (new = [] ∧ ∃ ad c, v = .slice ad 0 c) ∨ ∃ ad c us, v = .slice (some ad) new.length c ∧ us.length = new.length * sz ∧ (∀ j u, us[j]? = some u → w.cell? (ad.add j) = some u) ∧ All2 (RD (Mut M0 μ h) w) new.flatten us := by
  have hfl : new.flatten.length = new.length * sz := by
    clear he
    induction new with
    | nil => simp
    | cons c r ih =>
      rw [List.flatten_cons, List.length_append, ih (fun c hc => hs c (List.mem_cons_of_mem _ hc)), hs c List.mem_cons_self, List.length_cons, Nat.add_mul]
      omega
  unfold elems at he
  split at he
  · rename_i s es
    cases he
    cases hd with
    | rowE _ ad cap => exact .inl ⟨rfl, ad, cap, rfl⟩
    | row _ _ ad cap us h1 h2 h3 h4 h5 h6 =>
      refine .inr ⟨ad, cap, (List.range new.flatten.length).map us, rfl, by simp [hfl], fun j u hj => ?_, ?_⟩
      · rw [List.getElem?_map] at hj
        have hl : j < new.flatten.length := by
          rcases Nat.lt_or_ge j new.flatten.length with h | h
          · exact h
          · rw [List.getElem?_eq_none (by simpa using h)] at hj; simp at hj
        rw [List.getElem?_range hl] at hj
        simp at hj
        rw [← hj]
        exact h5 j hl
      · refine All2.of_get (by simp) fun j x u hx hu => ?_
        have hl := (List.getElem?_eq_some_iff.1 hx).1
        rw [List.getElem?_map, List.getElem?_range hl] at hu
        simp at hu
        rw [← hu]
        exact h6 j x hx
  · rename_i id
    split at he
    · rename_i ty s es hid
      cases he
      obtain ⟨_, h2⟩ := hd
      obtain ⟨h3, xs, h4, h5⟩ := S.heap id _ hid
      subst h2
      rcases h4.2 with ⟨h6, h7⟩ | ⟨g, cap, cur, h6, _⟩
      · exact .inl ⟨List.eq_nil_of_length_eq_zero h7, none, 0, by rw [h6]⟩
      · exact .inr ⟨⟨g, 0, none⟩, cap, xs, h6, by rw [← h5.length, hfl], h4.cells (g := g) (by rw [h6]; rfl), h5⟩
    · cases he
  · cases he

/-- Nothing is appended. -/
theorem run_append_own0 (t ty e : TypeId) (i : TypeInfo) (size : Nat) (ht : P.underlying t = some (.slice e)) (hi : P.info? e = some i) (hsize : i.size = size)
    {v : Value} {m : Nat} {xs : List Value} (hown : w.ownsRow 0 e size v m xs) (ad : Option Addr) (c : Nat) : (Builtin.append_ #[t, t] ty #[v, .slice ad 0 c]).run P w = .ok v w := by
  rcases hown.2 with ⟨rfl, rfl⟩ | ⟨g, cap, cur, rfl, _, hg, hc, _⟩
  · cases ad <;> simp [Builtin.append_, run_underlying ht, sizeOf, typeInfo, hi, Builtin.lenOf, Builtin.firstCells, loadCells, loadCellsFrom]
  · cases ad <;> simp [Builtin.append_, run_underlying ht, sizeOf, typeInfo, hi, Builtin.lenOf, Builtin.firstCells, loadCells, loadCellsFrom, hc, storeCells]

def appIs (P : Program) (t e sz bytes : Nat) : Bool := (match P.underlying t with
    | some (.slice e') => e' == e
    | _ => false) && (match P.info? e with
    | some i => i.size == sz && i.bytes == bytes && (match i.zero with
      | some z => z.cells.size == sz
      | none => false)
    | none => false) && decide (0 < sz)
theorem appIs_open {t e sz bytes : Nat} (hc : appIs P t e sz bytes = true) : P.underlying t = some (.slice e) ∧ ∃ i z, P.info? e = some i ∧ i.zero = some z ∧ i.size = sz ∧ i.bytes = bytes ∧ z.cells.size = sz ∧ 0 < sz := by
  unfold appIs at hc
  simp only [Bool.and_eq_true, decide_eq_true_eq] at hc
  obtain ⟨⟨h1, h2⟩, h3⟩ := hc
  split at h1
  · rename_i e' he
    simp only [beq_iff_eq] at h1
    subst h1
    split at h2
    · rename_i i hi
      simp only [Bool.and_eq_true, beq_iff_eq] at h2
      obtain ⟨⟨h4, h5⟩, h6⟩ := h2
      split at h6
      · rename_i z hz
        simp only [beq_iff_eq] at h6
        exact ⟨he, i, z, hi, hz, h4, h5, h6, h3⟩
      · cases h6
    · cases h2
  · cases h1

/-- The append itself, of what an owned array holds. -/
theorem run_append_any (S : Sim w0 B0 M0 N μ e h a w) {t ty e' sz bytes : Nat} (ht : appIs P t e' sz bytes = true) {v u : Value} {es new : List (List D)} {xs : List Value} {d : C} (hown : w.ownsRow 0 e' sz v es.length xs) (hxs : All2 (RD (Mut M0 μ h) w) es.flatten xs)
    (hd : RC (Mut M0 μ h) w μ (shapes h) d u) (he : elems h d = some new) (hs : ∀ cs ∈ new, cs.length = sz) (hf : prims.fits bytes (es ++ new) = true) :
    ∃ v' w' xs', (Builtin.append_ #[t, t] ty #[v, u]).run P w = .ok v' w' ∧ w'.ownsRow 0 e' sz v' (es ++ new).length xs' ∧ w.grownBy w' v.ownBlock ∧ All2 (RD (Mut M0 μ h) w) (es ++ new).flatten xs' ∧
      ∀ k, v'.ownBlock = some k → v.ownBlock = some k ∨ w.heap.size ≤ k := by
  obtain ⟨hu, i, z, hi, hz, h1, h2, h3, h4⟩ := appIs_open ht
  simp only [prims, decide_eq_true_eq] at hf
  rcases elems_cells S hd he hs with ⟨rfl, ad, c, rfl⟩ | ⟨ad, c, us, rfl, h5, h6, h7⟩
  · exact ⟨v, w, xs, run_append_own0 t ty e' i sz hu hi h1 hown ad c, by simpa using hown, ⟨rfl, rfl, rfl, Nat.le_refl _, fun _ _ _ => rfl⟩, by simpa using hxs, fun k hk => .inl hk⟩
  · have h8 : ∀ u ∈ us, u.oneCell' = true := by
      intro u hu
      obtain ⟨j, hj⟩ := List.getElem?_of_mem hu
      have hj2 : j < new.flatten.length := by rw [h7.length]; exact (List.getElem?_eq_some_iff.1 hj).1
      obtain ⟨u', h9, h10⟩ := h7.get j _ (List.getElem?_eq_getElem hj2)
      rw [hj] at h9
      cases h9
      exact h10.one
    have hlen : (es ++ new).length = es.length + new.length := List.length_append
    rw [hlen] at hf
    obtain ⟨v', w', hr, h9, h10, _⟩ := run_append_own (P := P) w 0 t ty e' i z sz bytes hu hi hz h1 h2 h3 h4 v es.length xs hown ad new.length c us h5 h6 h8 (by simp only [maxLen]; omega) hf.1 (Nat.zero_le _)
    refine ⟨v', w', xs ++ us, hr, by rw [hlen]; exact h9, h10, by rw [List.flatten_append]; exact hxs.append h7, fun k hk => ?_⟩
    rcases hown.2 with ⟨rfl, h0⟩ | ⟨g, cap, cur, rfl, hbg, hg, hnc, hcm, hcs, htake⟩
    · have hx : xs = [] := List.eq_nil_of_length_eq_zero (by rw [hown.1, h0]; simp)
      obtain ⟨v'', w'', hr', h9', _⟩ := run_append_own (P := P) w w.heap.size t ty e' i z sz bytes hu hi hz h1 h2 h3 h4 (.slice none 0 0) 0 [] (World.ownsRow_nil _ _ _ _) ad new.length c us h5 h6 h8 (by simp only [maxLen]; omega) (by have := hf.1; rw [h0] at this; exact this) (Nat.le_refl _)
      rw [hr] at hr'
      cases hr'
      exact .inr (h9'.lt k hk).1
    · by_cases hroom : es.length + new.length ≤ cap
      · have hfit : es.length * i.size + us.length ≤ cur.size := by rw [h5, hcs, h1, ← Nat.add_mul]; exact Nat.mul_le_mul_right _ hroom
        have hr' := run_append_room (P := P) w t ty e' i hu hi g es.length cap cur hg ad new.length c us (by rw [h1]; exact h5) h6 h8 hroom hfit
        rw [hr] at hr'
        cases hr'
        exact .inl hk
      · have hr' := run_append_grow (P := P) w t ty e' i z hu hi hz ⟨g, 0, none⟩ es.length cap xs (by rw [h1]; exact hown.1) (hown.cells (g := g) rfl) ad new.length c us (by rw [h1]; exact h5) h6 (by omega) (by omega) (growslice_fits (by omega) (by rw [h2]; exact hf.1))
        rw [hr] at hr'
        cases hr'
        simp [Value.ownBlock] at hk
        exact .inr (by omega)

/-- Appended to what the call owns. -/
theorem append_sound (S : Sim w0 B0 M0 N μ e h a w) {o : Go.Oper} {t ty sz bytes : Nat} {x y : Operand} {x' y' : Arg} (ho : o.op = .call { callee := .builtin .append, args := #[x, y], argTypes := #[t, t] }) (ht : appIs P t ty sz bytes = true)
    (h2 : argOk x x' = true) (h3 : argOk y y' = true) {id : Nat} {d : C} {es new : List (List D)} (hc : x'.cell e = some (.own id)) (hd : y'.cell e = some d) (he : elems h d = some new) (hid : h id = some (.arr ty sz es))
    (hf : prims.fits bytes (prims.app es new) = true) (hs : ∀ cs ∈ new, cs.length = sz) :
    ∃ v' w' μ', (execOp a.eval o).run P w = .ok (.value v') w' ∧ Sim w0 B0 M0 N μ' (fkillE e (C.isOwn id)) (fset (fkill h (C.isOwn id)) id (.arr ty sz (prims.app es new))) a w' ∧
      RV (Mut M0 μ' (fset (fkill h (C.isOwn id)) id (.arr ty sz (prims.app es new)))) w' μ' (shapes (fset (fkill h (C.isOwn id)) id (.arr ty sz (prims.app es new)))) (.v false [.own id]) v' := by
  obtain ⟨_, h5⟩ := S.cell h2 hc
  obtain ⟨h6, xs, h7, h8⟩ := S.heap id _ hid
  have happ : prims.app es new = es ++ new := rfl
  rw [happ] at hf ⊢
  obtain ⟨v', w', xs', h9, h10, h11, h12, h13⟩ := run_append_any (ty := o.type) S ht h7 h8 (S.cell h3 hd) he hs hf
  have hob := blkOf_own h7
  have hob' := blkOf_own h10
  have hsz : ∀ cs ∈ es ++ new, cs.length = sz := by
    intro cs hcs
    rcases List.mem_append.1 hcs with hcs | hcs
    · exact h6 cs hcs
    · exact hs cs hcs
  obtain ⟨S', _, _⟩ := S.turn (μ' := fun i => if i = id then v' else μ i) (w' := w') (ob' := .arr ty sz (es ++ new)) (p := C.isOwn id) (chg := fun i => i = id) hid
    (fun c hc i hi he => by subst he; rw [hc] at hi; cases hi) (fun i hi => hi) (fun hn => absurd rfl hn) (fun _ => ⟨sz, es.length, rfl⟩) (fun i hi => by simp [hi]) h11.os h11.tape h11.output h11.size
    (fun k hk hb => h11.block k hk (by rw [hob]; exact fun h => hb h.symm)) (fun k hk => by
      simp only [if_true] at hk
      rw [← hob'] at hk
      rw [← hob]
      exact ⟨h13 k hk, (h10.lt k hk).2⟩) (fun hRD _ => by
      simp only [if_true]
      exact ⟨hsz, xs', h10, h12.mono hRD⟩)
  refine ⟨v', w', _, ?_, S', ?_⟩
  · rw [← h5] at h9
    simp [execOp, ho, resolve, invoke, builtin, h9]
  · refine RV_cell.2 ⟨⟨sz, (es ++ new).length, ?_⟩, by simp⟩
    simp [shapes, fset, Obj.sh]

/-- Appended to nil. -/
theorem appendNil_sound (S : Sim w0 B0 M0 N μ e h a w) {o : Go.Oper} {t ty sz bytes : Nat} {x y : Operand} {y' : Arg} (ho : o.op = .call { callee := .builtin .append, args := #[x, y], argTypes := #[t, t] }) (ht : appIs P t ty sz bytes = true)
    (h2 : argOk x .nil = true) (h3 : argOk y y' = true) {d : C} {new : List (List D)} (hd : y'.cell e = some d) (he : elems h d = some new) (hfr : ∀ id, n ≤ id → id < n + 1 → h id = none)
    (hf : prims.fits bytes new = true) (hs : ∀ cs ∈ new, cs.length = sz) : Comes1 P w0 B0 M0 N μ e h a w o n (.v false [.own n]) [.arr ty sz new] := by
  have hx : x = .const (.slice none 0 0) := by
    unfold argOk at h2
    split at h2 <;> simp_all
  obtain ⟨v', w', xs', h9, h10, h11, h12, h13⟩ := run_append_any (ty := o.type) (es := []) S ht (World.ownsRow_nil w 0 ty sz) trivial (S.cell h3 hd) he hs hf
  simp only [List.nil_append] at h10 h12
  have hob' := blkOf_own h10
  have hb : Below w.heap.size w w' := ⟨h11.os, h11.tape, h11.output, h11.size, fun k hk => h11.block k hk (by simp [Value.ownBlock])⟩
  have hge : ∀ k, blkOf v' = some k → w.heap.size ≤ k ∧ k < w'.heap.size := by
    intro k hk
    rw [← hob'] at hk
    exact ⟨(h13 k hk).resolve_left (by simp [Value.ownBlock]), (h10.lt k hk).2⟩
  have hμ : ∀ id o, h id = some o → (fun i => if i = n then v' else μ i) id = μ id := by
    intro id o hid
    have : id ≠ n := fun he => by subst he; rw [hfr id (Nat.le_refl _) (Nat.lt_succ_self _)] at hid; cases hid
    simp [this]
  have h1 : ∀ j (o : Obj), [Obj.arr ty sz new][j]? = some o → j = 0 ∧ o = .arr ty sz new := by
    intro j o hj
    match j, hj with
    | 0, hj => simpa using hj.symm
  have S' := S.new (μ' := fun i => if i = n then v' else μ i) (n := n) (objs := [.arr ty sz new]) (fun id h1 h2 => hfr id h1 h2) hμ hb
    (fun j o k hj hk => by obtain ⟨rfl, rfl⟩ := h1 j o hj; simp only [Nat.add_zero, if_true] at hk; exact hge k hk)
    (fun i j o q k hi hj _ _ => by rw [(h1 i o hi).1, (h1 j q hj).1])
    (fun j o hj => by
      obtain ⟨rfl, rfl⟩ := h1 j o hj
      simp only [Nat.add_zero, if_true]
      refine ⟨hs, xs', h10, h12.mono fun d v hr => hr.step (Leaves.of_below hb) fun k hk hm => ?_⟩
      rcases hm with hm | ⟨id, o, hi, hbk⟩
      · exact .inl hm
      · rcases fnew_inv hi with h1' | ⟨j, rfl, h1'⟩
        · exact .inr ⟨id, o, h1', by rw [← hμ id o h1']; exact hbk⟩
        · obtain ⟨rfl, rfl⟩ := h1 j o h1'
          simp only [Nat.add_zero, if_true] at hbk
          exact absurd (hge k hbk).1 (by omega))
  refine ⟨v', w', _, ?_, hμ, S', RV_cell.2 ⟨⟨sz, new.length, ?_⟩, by simp⟩⟩
  · subst hx
    have hv : a.eval (.const (.slice none 0 0)) = .slice none 0 0 := rfl
    simp [execOp, ho, resolve, invoke, builtin, h9, hv]
  · have := fnew_new (h := h) (n := n) (objs := [.arr ty sz new]) (j := 0) (o := .arr ty sz new) rfl
    simp only [Nat.add_zero] at this
    simp [shapes, this, Obj.sh]
end
end Go.Vi
namespace Go.Vi
open Go.RowKit
set_option linter.unusedVariables false

/-- A map of strings to elements of a kind. -/
def setIs (P : Program) (t sz : Nat) : Bool := match P.underlying t with
  | some (.map k _) => match P.underlying k with
    | some .string => true
    | _ => false
  | _ => false
theorem setIs_open {P : Program} {t sz : Nat} (h : setIs P t sz = true) : ∃ k e, P.underlying t = some (.map k e) ∧ P.underlying k = some .string := by
  unfold setIs at h
  split at h
  · rename_i k e ht
    split at h
    · rename_i hk; exact ⟨k, e, ht, hk⟩
    · cases h
  · cases h

section
variable {P : Program} {w0 : World} {B0 M0 : Nat → Prop} {N : Nat} {μ : Nat → Value} {e : EnvF} {h : HeapF} {a : Act} {w w' : World}

theorem mapSet_sound (S : Sim w0 B0 M0 N μ e h a w) {o : Go.Oper} {t sz : Nat} {x k y : Operand} {x' k' y' : Arg} (ho : o.op = .mapUpdate t x k y) (ht : setIs P t sz = true) (h2 : argOk x x' = true) (h3 : argOk k k' = true) (h4 : argOk y y' = true)
    {id : Nat} {s : ByteArray} {b : Bool} {cs : List D} {es : List (D × List D)} (hx : x'.cell e = some (.lmap id)) (hk : k'.str e = some s) (hy : y'.val e = some (.v b (ofData cs))) (hb : b = isAgg' sz) (hid : h id = some (.map sz es)) :
    ∃ w', (execOp a.eval o).run P w = .ok .skip w' ∧ Sim w0 B0 M0 N μ e (fset h id (.map sz (prims.upd es (.str s) cs))) a w' := by
  obtain ⟨kt, et, hu, hkt⟩ := setIs_open ht
  obtain ⟨_, hev⟩ := S.cell h2 hx
  have es_ := S.str h3 hk
  obtain ⟨r, ents, clock, h5, h6, h7⟩ := S.heap id _ hid
  rw [h5] at hev
  obtain ⟨us, h8, h9, h10⟩ := S.arg h4 hy
  rw [ofData_eq] at h8
  have h8 := (All2.map_left C.d).1 h8
  have hck := checkKey_string hkt false s w
  have hlt : r < w.heap.size := (Array.getElem?_eq_some_iff.1 h6).1
  have fin : ∀ (ents' : Array MapEntry) (clock' : Nat), (execOp a.eval o).run P w = .ok .skip { w with heap := w.heap.setIfInBounds r (.map ents' clock') } →
      (∀ (M : Nat → Prop) (w' : World), (∀ d v, RD (Mut M0 μ h) w d v → RD M w' d v) → MapOk M w' sz (updL es (.str s) cs) ents'.toList) →
      ∃ w', (execOp a.eval o).run P w = .ok .skip w' ∧ Sim w0 B0 M0 N μ e (fset h id (.map sz (prims.upd es (.str s) cs))) a w' := by
    intro ents' clock' hrun hmap
    refine ⟨_, hrun, S.turn0 hid rfl rfl rfl rfl (by simp) (fun k hk hne => ?_) fun hRD _ => ⟨r, ents', clock', h5, by simp [hlt], hmap _ _ hRD⟩⟩
    have : r ≠ k := fun he => hne (by rw [h5, ← he]; rfl)
    simp [Array.getElem?_setIfInBounds_ne this]
  rcases findNow_look s cs es ents.toList 0 h7 with ⟨_, h11, h12⟩ | ⟨j, p, me, h11, h12, ⟨s', h13, h14⟩, _, h15, h16⟩
  · refine fin (ents.push { key := .string s, val := a.eval y, born := clock }) (clock + 1) ?_ ?_
    · simp [execOp, ho, hev, es_, Instr.mapUpdate, run_underlying hu, run_underlying hkt, getObj, setObj, Sem.run, h6, hck, Instr.findKey, h11]
    · intro M w' hRD
      rw [h12, Array.toList_push]
      exact All2.append (h7.step hRD) ⟨⟨⟨s, rfl, rfl⟩, us, h8.mono hRD, by rw [← hb]; exact h9, by rw [← hb]; exact h10⟩, trivial⟩
  · have hj : ents[j]? = some me := by simpa using h12
    have hsame : (Instr.keyThatStays me.key (.string s)).run P w = .ok (.string s) w := by
      have : Instr.sameBits 10000 me.key (.string s) = true := by
        rw [h13]
        show (s' == s) = true
        rw [bytes_beq] at h14 ⊢
        simpa using (by simpa using h14 : s.toList = s'.toList).symm
      simp [Instr.keyThatStays, this]
    refine fin (ents.modify j fun e => { e with key := .string s, val := a.eval y }) clock ?_ ?_
    · simp [execOp, ho, hev, es_, Instr.mapUpdate, run_underlying hu, run_underlying hkt, getObj, setObj, Sem.run, h6, hck, Instr.findKey, h15, hj, hsame]
    · intro M w' hRD
      rw [h16]
      have hjl := (Array.getElem?_eq_some_iff.1 hj).1
      have : (ents.modify j fun e => { e with key := .string s, val := a.eval y }).toList = ents.toList.set j { me with key := .string s, val := a.eval y } := by
        apply List.ext_getElem?
        intro i
        rw [List.getElem?_set]
        by_cases hij : j = i
        · subst hij
          simp [hjl, (Array.getElem?_eq_some_iff.1 hj).2]
        · simp [hij, Array.getElem?_modify]
      rw [this]
      exact All2.set j (h7.step hRD) ⟨⟨s, rfl, rfl⟩, us, h8.mono hRD, by rw [← hb]; exact h9, by rw [← hb]; exact h10⟩
end
end Go.Vi
