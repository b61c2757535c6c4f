/-
  Contracts of meanings.
-/
import Derived.Test.YtkjnedjjdmfpbaaGreatDoorS0
import Derived.Test.YtkjnedjjdmfpbaaGreatDoorA6
import Derived.Lib.AtoiErrMem
import Derived.Lib.AppendIntMem
import Derived.Test.YtkjnedjjdmfpbaaGreatDoorP3
set_option linter.unusedVariables false
set_option linter.unusedSimpArgs false
set_option linter.unusedSectionVars false
namespace Go.Vi
open Go.Proofs Go.RowKit
set_option maxRecDepth 100000
theorem fit_of {P : Program} {f : Nat} {fn : Func} (h1 : P.funcs[f]? = some fn) (h2 : fn.body.isSome = true) (h3 : (fn.name == "runtime.NumGoroutine") = false) : Fit P f := by
  intro vs w
  obtain ⟨b, hb⟩ := Option.isSome_iff_exists.1 h2
  have h6 : ¬ fn.name = "runtime.NumGoroutine" := by simpa using h3
  simp [callFunc, h1, h6, hb]
theorem one_arg {M : Nat → Prop} {w : World} {d : D} {vs : List Value} (h : All2 (RDV M w) [(false, [d])] vs) : ∃ v, vs = [v] ∧ RD M w d v := by
  match vs, h with
  | [v], h =>
    obtain ⟨us, h1, h2, h3⟩ := h.1
    match us, h1 with
    | [u], h1 =>
      subst h3
      exact ⟨_, rfl, h1.1⟩
theorem RDV.one {M : Nat → Prop} {w : World} {d : D} {v : Value} (h : RD M w d v) : RDV M w (false, [d]) v := ⟨[v], ⟨h, trivial⟩, rfl, rfl⟩
/-- How Atoi ends. -/
def atoiR (s : ByteArray) : R := match Lib.atoiAll s.data.toList with
  | .ok v => .many [(false, [.int .i64 v]), (false, [.err0])]
  | .range => .many [(false, [.int .i64 (Lib.atoiSat s.data.toList)]), (false, [.errX])]
  | _ => .many [(false, [.int .i64 0]), (false, [.errX])]
theorem g107 (s : ByteArray) (hs : s.size ≤ 281474976710656) : GG 107 [(false, [.str s])] (atoiR s) := by
  refine ⟨rfl, fit_of (fn := Tryz.prog.funcs[107]) rfl (by kernel_rfl) (by kernel_rfl), fun M w vs hV hM ha => ?_⟩
  obtain ⟨v, rfl, hv⟩ := one_arg ha
  rw [RD.str_eq hv]
  unfold atoiR
  rcases h : Lib.atoiAll s.data.toList with v | _ | _
  · skip
    refine (Any.strconv_Atoi_ok Tryz.layC172 s (by omega) v h w).mono ?_
    rintro e w' ⟨rfl, hw⟩
    refine ⟨_, rfl, ⟨_, rfl, RDV.one (.int _ _), RDV.one .err0, trivial⟩, ?_⟩
    rcases hw with rfl | ⟨t, rfl⟩
    · exact Below.refl _ _
    · exact Lib.bytesWorld_below _ _ _
  · skip
    obtain ⟨⟨tp, p, hvar⟩, _⟩ := hV
    refine (Any.strconv_Atoi_syntax_var Tryz.layC172 s hs h tp p w hvar).mono ?_
    rintro e w' ⟨N, rfl, _, _, hb⟩
    exact ⟨_, rfl, ⟨_, rfl, RDV.one (.int _ _), RDV.one (.errX _ _), trivial⟩, hb⟩
  · skip
    obtain ⟨_, ⟨tp, p, hvar⟩, _⟩ := hV
    refine (Any.strconv_Atoi_range_var Tryz.layC172 s hs h tp p w hvar).mono ?_
    rintro e w' ⟨N, rfl, _, _, hb⟩
    exact ⟨_, rfl, ⟨_, rfl, RDV.one (.int _ _), RDV.one (.errX _ _), trivial⟩, hb⟩
def itoaS (n : Int) : ByteArray := ⟨(Lib.itoa n).toArray⟩
theorem g108 (n : Int) (h0 : -9223372036854775808 ≤ n) (h1 : n ≤ 9223372036854775807) : GG 108 [(false, [.int .i64 n])] (.one (false, [.str (itoaS n)])) := by
  refine ⟨rfl, fit_of (fn := Tryz.prog.funcs[108]) rfl (by kernel_rfl) (by kernel_rfl), fun M w vs hV hM ha => ?_⟩
  obtain ⟨v, rfl, hv⟩ := one_arg ha
  rw [RD.int_eq hv]
  obtain ⟨_, _, htab⟩ := hV
  refine (Any.strconv_Itoa Tryz.layM171 n h0 h1 w htab).mono ?_
  rintro e w' ⟨rfl, k, os, rfl⟩
  exact ⟨_, rfl, RDV.one (.str _), Lib.below_grow _ w (Nat.le_refl _) k os⟩
end Go.Vi
namespace Go.Vi
def encN (i : Nat) : List D := [.int .i64 (Int.ofNat i)]
/-- The place where an index goes among those before it. -/
def posS (lt : Nat → Nat → Bool) (x : Nat) (P : List Nat) : Nat → Nat
  | 0 => 0
  | j + 1 => match P[j]? with
    | some y => if lt x y then posS lt x P j else j + 1
    | none => j + 1
def insS (lt : Nat → Nat → Bool) (x : Nat) (P : List Nat) : List Nat := P.take (posS lt x P P.length) ++ x :: P.drop (posS lt x P P.length)
def ordS (lt : Nat → Nat → Bool) : Nat → List Nat
  | 0 => []
  | n + 1 => insS lt n (ordS lt n)
theorem posS_le (lt : Nat → Nat → Bool) (x : Nat) (P : List Nat) : ∀ j, posS lt x P j ≤ j
  | 0 => Nat.le_refl _
  | j + 1 => by
    unfold posS
    split
    · split
      · exact Nat.le_succ_of_le (posS_le lt x P j)
      · exact Nat.le_refl _
    · exact Nat.le_refl _
theorem ordS_length (lt : Nat → Nat → Bool) : ∀ n, (ordS lt n).length = n
  | 0 => rfl
  | n + 1 => by
    have h1 := ordS_length lt n
    have h2 := posS_le lt n (ordS lt n) (ordS lt n).length
    simp only [ordS, insS, List.length_append, List.length_cons, List.length_take, List.length_drop]
    omega
theorem ordS_lt (lt : Nat → Nat → Bool) : ∀ n, ∀ x ∈ ordS lt n, x < n
  | 0, x, h => by simp [ordS] at h
  | n + 1, x, h => by
    simp only [ordS, insS, List.mem_append, List.mem_cons] at h
    rcases h with h | rfl | h
    · exact Nat.lt_succ_of_lt (ordS_lt lt n x (List.mem_of_mem_take h))
    · exact Nat.lt_succ_self _
    · exact Nat.lt_succ_of_lt (ordS_lt lt n x (List.mem_of_mem_drop h))
/-- While x goes down: it stands at j. -/
def midS (x : Nat) (P R : List Nat) (j : Nat) : List Nat := P.take j ++ x :: (P.drop j ++ R)
theorem midS_length {x : Nat} {P R : List Nat} {j : Nat} (hj : j ≤ P.length) : (midS x P R j).length = P.length + 1 + R.length := by
  simp only [midS, List.length_append, List.length_cons, List.length_take, List.length_drop]
  omega
theorem midS_at {x : Nat} {P R : List Nat} {j : Nat} (hj : j ≤ P.length) : (midS x P R j)[j]? = some x := by
  unfold midS
  rw [List.getElem?_append_right (by simp; omega)]
  simp [Nat.min_eq_left hj]
theorem midS_before {x : Nat} {P R : List Nat} {j : Nat} (hj : j + 1 ≤ P.length) : (midS x P R (j + 1))[j]? = P[j]? := by
  unfold midS
  rw [List.getElem?_append_left (by simp; omega), List.getElem?_take]
  simp
theorem midS_swap {x y : Nat} {P R : List Nat} {j : Nat} (hy : P[j]? = some y) : ((midS x P R (j + 1)).set (j + 1) y).set j x = midS x P R j := by
  have hj : j < P.length := (List.getElem?_eq_some_iff.1 hy).1
  have hy' : P[j] = y := (List.getElem?_eq_some_iff.1 hy).2
  have h1 : P.take (j + 1) = P.take j ++ [y] := by rw [List.take_add_one, hy]; rfl
  have h2 : P.drop j = y :: P.drop (j + 1) := by rw [List.drop_eq_getElem_cons hj, hy']
  have hl : (P.take j).length = j := by simp; omega
  unfold midS
  rw [h1, h2]
  simp only [List.append_assoc, List.cons_append, List.nil_append]
  rw [List.set_append_right _ _ (by omega), List.set_append_right _ _ (by omega), hl]
  simp
theorem ordS_start (lt : Nat → Nat → Bool) (n i : Nat) (hi : i < n) : ordS lt i ++ (List.range n).drop i = midS i (ordS lt i) ((List.range n).drop (i + 1)) i := by
  have h1 := ordS_length lt i
  unfold midS
  have h2 : (List.range n).drop i = i :: (List.range n).drop (i + 1) := by
    rw [List.drop_eq_getElem_cons (by simpa using hi)]
    simp
  have h3 : (ordS lt i).take i = ordS lt i := List.take_of_length_le (by omega)
  have h4 : (ordS lt i).drop i = [] := List.drop_of_length_le (by omega)
  rw [h2, h3, h4, List.nil_append]
theorem ordS_end (lt : Nat → Nat → Bool) (n i j : Nat) (hj : posS lt i (ordS lt i) i = j) : midS i (ordS lt i) ((List.range n).drop (i + 1)) j = ordS lt (i + 1) ++ (List.range n).drop (i + 1) := by
  have h1 := ordS_length lt i
  unfold midS
  simp only [ordS, insS, h1, hj, List.append_assoc, List.cons_append]
theorem setN (M : List Nat) (j y : Nat) (hj : j < M.length) : prims.setEl (M.map encN) (j : Int) 0 (.int .i64 (Int.ofNat y)) = some ((M.set j y).map encN) := by
  have h0 : (0 : Int) ≤ (j : Int) := Int.natCast_nonneg _
  simp only [prims]
  rw [if_pos h0, Int.toNat_natCast, List.getElem?_map, List.getElem?_eq_getElem hj]
  simp [encN, List.map_set]
end Go.Vi
namespace Go.Vi
open Go.Proofs
set_option maxRecDepth 100000
set_option linter.unusedVariables false
set_option linter.unusedSimpArgs false
def digGo (n : Int) : List UInt8 → Int
  | [] => n
  | b :: r => if b.toNat < 48 ∨ 57 < b.toNat then -1 else digGo (10 * n + ((b.toNat : Int) - 48)) r
def digS (s : ByteArray) : Int := match s.data.toList with
  | [] => -1
  | b :: r => if 9 < (b :: r).length then -1 else if b.toNat = 48 ∧ r ≠ [] then -1 else digGo 0 (b :: r)
theorem g81 (s : ByteArray) (hs : s.size ≤ maxLen) : GG 81 [(false, [.str s])] (.one (false, [.int .i64 (digS s)])) := by
  refine start c81 rfl ?_
  intro r' hr G hG hGW lt le eq add sub mul quo rem conv strEq strLt strCat strLen strAt strCut bytes ofBytes len nth cut fits app rep setEl look upd ne strNe H
  have hsz : s.data.toList.length = s.size := by simp
  rcases hl : s.data.toList with _ | ⟨b, r⟩
  · have h1 : lt (strLen s) 1 = true := by
      rw [H.strLen, H.lt, decide_eq_true_eq]
      rw [hl] at hsz
      simp at hsz
      omega
    (try cbv)
    repeat' (first | (rw [h1]; (try cbv)) | fail)
    rw [hr, digS, hl]
  · have hsz2 : s.data.toList.length = s.size := by simp
    have h1 : lt (strLen s) 1 = false := by
      rw [H.strLen, H.lt, decide_eq_false_iff_not]
      rw [hl] at hsz
      simp at hsz
      omega
    cases h2 : lt 9 (strLen s)
    · have h2' := h2
      have h2' : ¬ 9 < s.size := of_decide_eq_false (by rw [← H.gtK (c := 9) s.size 9 rfl, ← H.strLen]; exact h2)
      obtain ⟨_, ⟨c, hc1, hc2⟩, _, _, _⟩ := H.strCons (k := 0) hs (by rw [hl]; rfl)
      have hc1 : strAt s 0 = some c := hc1
      cases h3 : eq c 48 <;> have h3' := h3
      all_goals rw [H.eq] at h3'
      · have hd0 : digS s = digGo 0 s.data.toList := by
          rw [digS, hl]
          dsimp only
          rw [if_neg (by rw [← hl, hsz2]; omega), if_neg (by rintro ⟨h, _⟩; simp at h3'; omega)]
        rw [hd0] at hr
        (try cbv)
        repeat' (first | (rw [h1]; (try cbv)) | (rw [h2]; (try cbv)) | (rw [hc1]; (try cbv)) | (rw [h3]; (try cbv)) | fail)
        refine loopK ?_
        intro K hK
        obtain ⟨P, hP⟩ : ∃ P : Nat → Int → Prop, ∀ k n, P k n ↔ (digGo n (s.data.toList.drop k) = digGo 0 s.data.toList ∧ 0 ≤ n ∧ n < 10 ^ k) := ⟨_, fun _ _ => Iff.rfl⟩
        obtain ⟨N, hN⟩ : ∃ N, N = s.data.toList.length := ⟨_, rfl⟩
        refine loopS N (fun k n => [(0, .v false [.d (.str s)]), (3, .v false [.d (.int .i64 n)]), (4, .v false [.d (.int .i64 (Int.ofNat k))])]) (fun _ _ => []) P 0 ⟨rfl, rfl⟩ ((hP _ _).2 ⟨rfl, by omega, by omega⟩) ?_
        intro k n hk hp
        rw [hN] at hk
        obtain ⟨p1, p2, p3⟩ := (hP _ _).1 hp
        have hk9 : k ≤ 9 := Nat.le_trans (Nat.le_trans hk (Nat.le_of_eq hsz2)) (by omega)
        have hn9 : n < 10 ^ 9 := Int.lt_of_lt_of_le p3 (by exact_mod_cast Nat.pow_le_pow_right (by decide) hk9)
        rcases hd : s.data.toList.drop k with _ | ⟨x, q⟩
        · have g1 := H.strNil hd hk
          rw [hd] at p1
          (try cbv)
          repeat' (first | (rw [g1]; (try cbv)) | fail)
          rw [hK]
          cbv
          rw [hr, ← p1]
          rfl
        · obtain ⟨g1, ⟨y, g2, g3⟩, g4, g5, g6⟩ := H.strCons hs hd
          rw [hd, digGo] at p1
          by_cases hlow : x.toNat < 48
          · have g7 : lt y 48 = true := by rw [H.lt, g3, decide_eq_true_eq]; omega
            (try cbv)
            repeat' (first | (rw [g1]; (try cbv)) | (rw [g2]; (try cbv)) | (rw [g7]; (try cbv)) | fail)
            rw [hK]
            cbv
            rw [hr, ← p1, if_pos (.inl hlow)]
          · have g7 : lt y 48 = false := by rw [H.lt, g3, decide_eq_false_iff_not]; omega
            by_cases hhigh : 57 < x.toNat
            · have g8 : lt 57 y = true := by rw [H.lt, g3, decide_eq_true_eq]; omega
              (try cbv)
              repeat' (first | (rw [g1]; (try cbv)) | (rw [g2]; (try cbv)) | (rw [g7]; (try cbv)) | (rw [g8]; (try cbv)) | fail)
              rw [hK]
              cbv
              rw [hr, ← p1, if_pos (.inr hhigh)]
            · have g8 : lt 57 y = false := by rw [H.lt, g3, decide_eq_false_iff_not]; omega
              rw [if_neg (by omega)] at p1
              have e1 : mul .i64 10 n = 10 * n := by rw [H.mul, wrap64] <;> omega
              have e2 : sub .u8 y 48 = (x.toNat : Int) - 48 := by rw [H.sub, g3, wrap8] <;> omega
              have e3 : conv .i64 ((x.toNat : Int) - 48) = (x.toNat : Int) - 48 := by rw [H.conv, wrap64] <;> omega
              have e4 : add .i64 (10 * n) ((x.toNat : Int) - 48) = 10 * n + ((x.toNat : Int) - 48) := by rw [H.add, wrap64] <;> omega
              obtain ⟨z, hz⟩ : ∃ z, z = 10 * n + ((x.toNat : Int) - 48) := ⟨_, rfl⟩
              have hz1 : 0 ≤ z := by rw [hz]; omega
              have hz2 : z < 10 ^ (k + 1) := by rw [hz, Int.pow_succ]; omega
              have e5 : add .i64 (mul .i64 10 n) (conv .i64 (sub .u8 y 48)) = z := by rw [e1, e2, e3, e4, hz]
              (try cbv)
              repeat' (first | (rw [g1]; (try cbv)) | (rw [g2]; (try cbv)) | (rw [g7]; (try cbv)) | (rw [g8]; (try cbv)) | (rw [e5]; (try cbv)) | fail)
              refine ⟨z, by rw [hN]; exact g6, (hP _ _).2 ⟨by rw [hz, g5]; exact p1, hz1, hz2⟩, ?_⟩
              cbv
              exact ⟨by rw [g4], trivial⟩
      · cases hx : lt 1 (strLen s)
        · have hx' : ¬ 1 < s.size := of_decide_eq_false (by rw [← H.gtK (c := 1) s.size 1 rfl, ← H.strLen]; exact hx)
          have hd0 : digS s = digGo 0 s.data.toList := by
            rw [digS, hl]
            dsimp only
            rw [if_neg (by rw [← hl, hsz2]; omega), if_neg]
            rintro ⟨_, h⟩
            rw [hl] at hsz
            cases r with
            | nil => exact h rfl
            | cons _ _ => simp at hsz; omega
          rw [hd0] at hr
          (try cbv)
          repeat' (first | (rw [h1]; (try cbv)) | (rw [h2]; (try cbv)) | (rw [hc1]; (try cbv)) | (rw [h3]; (try cbv)) | (rw [hx]; (try cbv)) | fail)
          refine loopK ?_
          intro K hK
          obtain ⟨P, hP⟩ : ∃ P : Nat → Int → Prop, ∀ k n, P k n ↔ (digGo n (s.data.toList.drop k) = digGo 0 s.data.toList ∧ 0 ≤ n ∧ n < 10 ^ k) := ⟨_, fun _ _ => Iff.rfl⟩
          obtain ⟨N, hN⟩ : ∃ N, N = s.data.toList.length := ⟨_, rfl⟩
          refine loopS N (fun k n => [(0, .v false [.d (.str s)]), (3, .v false [.d (.int .i64 n)]), (4, .v false [.d (.int .i64 (Int.ofNat k))])]) (fun _ _ => []) P 0 ⟨rfl, rfl⟩ ((hP _ _).2 ⟨rfl, by omega, by omega⟩) ?_
          intro k n hk hp
          rw [hN] at hk
          obtain ⟨p1, p2, p3⟩ := (hP _ _).1 hp
          have hk9 : k ≤ 9 := Nat.le_trans (Nat.le_trans hk (Nat.le_of_eq hsz2)) (by omega)
          have hn9 : n < 10 ^ 9 := Int.lt_of_lt_of_le p3 (by exact_mod_cast Nat.pow_le_pow_right (by decide) hk9)
          rcases hd : s.data.toList.drop k with _ | ⟨x, q⟩
          · have g1 := H.strNil hd hk
            rw [hd] at p1
            (try cbv)
            repeat' (first | (rw [g1]; (try cbv)) | fail)
            rw [hK]
            cbv
            rw [hr, ← p1]
            rfl
          · obtain ⟨g1, ⟨y, g2, g3⟩, g4, g5, g6⟩ := H.strCons hs hd
            rw [hd, digGo] at p1
            by_cases hlow : x.toNat < 48
            · have g7 : lt y 48 = true := by rw [H.lt, g3, decide_eq_true_eq]; omega
              (try cbv)
              repeat' (first | (rw [g1]; (try cbv)) | (rw [g2]; (try cbv)) | (rw [g7]; (try cbv)) | fail)
              rw [hK]
              cbv
              rw [hr, ← p1, if_pos (.inl hlow)]
            · have g7 : lt y 48 = false := by rw [H.lt, g3, decide_eq_false_iff_not]; omega
              by_cases hhigh : 57 < x.toNat
              · have g8 : lt 57 y = true := by rw [H.lt, g3, decide_eq_true_eq]; omega
                (try cbv)
                repeat' (first | (rw [g1]; (try cbv)) | (rw [g2]; (try cbv)) | (rw [g7]; (try cbv)) | (rw [g8]; (try cbv)) | fail)
                rw [hK]
                cbv
                rw [hr, ← p1, if_pos (.inr hhigh)]
              · have g8 : lt 57 y = false := by rw [H.lt, g3, decide_eq_false_iff_not]; omega
                rw [if_neg (by omega)] at p1
                have e1 : mul .i64 10 n = 10 * n := by rw [H.mul, wrap64] <;> omega
                have e2 : sub .u8 y 48 = (x.toNat : Int) - 48 := by rw [H.sub, g3, wrap8] <;> omega
                have e3 : conv .i64 ((x.toNat : Int) - 48) = (x.toNat : Int) - 48 := by rw [H.conv, wrap64] <;> omega
                have e4 : add .i64 (10 * n) ((x.toNat : Int) - 48) = 10 * n + ((x.toNat : Int) - 48) := by rw [H.add, wrap64] <;> omega
                obtain ⟨z, hz⟩ : ∃ z, z = 10 * n + ((x.toNat : Int) - 48) := ⟨_, rfl⟩
                have hz1 : 0 ≤ z := by rw [hz]; omega
                have hz2 : z < 10 ^ (k + 1) := by rw [hz, Int.pow_succ]; omega
                have e5 : add .i64 (mul .i64 10 n) (conv .i64 (sub .u8 y 48)) = z := by rw [e1, e2, e3, e4, hz]
                (try cbv)
                repeat' (first | (rw [g1]; (try cbv)) | (rw [g2]; (try cbv)) | (rw [g7]; (try cbv)) | (rw [g8]; (try cbv)) | (rw [e5]; (try cbv)) | fail)
                refine ⟨z, by rw [hN]; exact g6, (hP _ _).2 ⟨by rw [hz, g5]; exact p1, hz1, hz2⟩, ?_⟩
                cbv
                exact ⟨by rw [g4], trivial⟩
        · have hx' : 1 < s.size := of_decide_eq_true (by rw [← H.gtK (c := 1) s.size 1 rfl, ← H.strLen]; exact hx)
          (try cbv)
          repeat' (first | (rw [h1]; (try cbv)) | (rw [h2]; (try cbv)) | (rw [hc1]; (try cbv)) | (rw [h3]; (try cbv)) | (rw [hx]; (try cbv)) | fail)
          rw [hr, digS, hl]
          dsimp only
          have hr9 : (b :: r).length = s.size := by rw [← hl]; exact hsz2
          rw [if_neg (by rw [hr9]; omega), if_pos]
          refine ⟨by have h := of_decide_eq_true h3'; rw [hc2] at h; exact_mod_cast h, ?_⟩
          rintro rfl
          simp at hr9
          omega
    · (try cbv)
      repeat' (first | (rw [h1]; (try cbv)) | (rw [h2]; (try cbv)) | fail)
      rw [hr, digS, hl]
      dsimp only
      rw [H.strLen, H.lt] at h2
      simp only [decide_eq_true_eq] at h2
      rw [if_pos (by rw [← hl, hsz2]; omega)]
end Go.Vi
namespace Go.Vi
open Go.Proofs
set_option maxRecDepth 100000
set_option linter.unusedVariables false
set_option linter.unusedSimpArgs false
def numS (s : ByteArray) : Option Int := match Lib.atoiAll s.data.toList with
  | .ok v => if valOk v = true ∧ itoaS v = s then some v else none
  | _ => none
def findM (L : List (ByteArray × Mrk)) (s : ByteArray) : Option Mrk := (L.find? fun p => decide (p.1 = s)).map Prod.snd
def markS (L : List (ByteArray × Mrk)) (s : ByteArray) : Option Mrk := match findM L s with
  | some m => some m
  | none => (numS s).map fun v => ⟨1, v⟩
def markR : Option Mrk → R
  | some m => .many [(true, [.int .u8 m.k, .int .i64 m.v]), (false, [.bool true])]
  | none => .many [(true, [.int .u8 0, .int .i64 0]), (false, [.bool false])]
theorem lookF (s : ByteArray) : ∀ L : List (ByteArray × Mrk), prims.look (eM L) (.str s) = (findM L s).map fun m => [.int .u8 m.k, .int .i64 m.v]
  | [] => rfl
  | p :: r => by
    have hk : sameKey (D.str p.1) (.str s) = decide (p.1 = s) := sameKey_str _ _
    have ih := lookF s r
    simp only [eM, findM, prims, List.map_cons, List.find?_cons, hk] at ih ⊢
    cases decide (p.1 = s)
    · exact ih
    · rfl
theorem g80 (L : List (ByteArray × Mrk)) (E : List (D × List D)) (hE : E = eM L) (s : ByteArray) (hs : s.size ≤ 281474976710656) : GG 80 [(false, [.rmap 2 E]), (false, [.str s])] (markR (markS L s)) := by
  refine start c80 rfl ?_
  intro r' hr G hG hGW lt le eq add sub mul quo rem conv strEq strLt strCat strLen strAt strCut bytes ofBytes len nth cut fits app rep setEl look upd ne strNe H
  have hq := lookF s L
  rw [← hE, ← H.look] at hq
  rw [markS] at hr
  cases hf : findM L s with
  | some m =>
    rw [hf] at hq hr
    obtain ⟨mk, mv⟩ := m
    have hq : look E (.str s) = some [.int .u8 mk, .int .i64 mv] := hq
    (try cbv)
    repeat' (first | (rw [hq]; (try cbv)) | fail)
    rw [hr]
    rfl
  | none =>
    rw [hf] at hq hr
    have hq : look E (.str s) = none := hq
    have hA := g107 s hs
    rw [atoiR] at hA
    dsimp only at hr
    rw [numS] at hr
    rcases ha : Lib.atoiAll s.data.toList with v | _ | _
    · skip
      rw [ha] at hA hr
      dsimp only at hA hr
      have hb := Lib.atoiAll_bounds ha
      obtain ⟨z, hz⟩ : ∃ z, z = itoaS v := ⟨_, rfl⟩
      have hI := g108 v (by omega) (by omega)
      rw [← hz] at hI hr
      have hv := g72 v
      cases hvo : valOk v <;> rw [hvo] at hv hr
      · (try cbv)
        repeat' (first | (rw [hq]; (try cbv)) | ((refine call0 (hG _ _ _ hA) ?_); (try cbv)) | ((refine callB (hG _ _ _ hv) ?_; intro b hb; subst hb); (try cbv)) | fail)
        rw [hr]; rfl
      · cases hne : strNe z s
        · have hne' := hne
          rw [H.strNe] at hne'
          simp at hne'
          (try cbv)
          repeat' (first | (rw [hq]; (try cbv)) | (rw [hne]; (try cbv)) | ((refine call0 (hG _ _ _ hA) ?_); (try cbv)) | ((refine callB (hG _ _ _ hv) ?_; intro b hb; subst hb); (try cbv)) | ((refine callS (hG _ _ _ hI) ?_; intro b hb; subst hb); (try cbv)) | fail)
          rw [hr, if_pos ⟨rfl, hne'⟩]; rfl
        · have hne' := hne
          rw [H.strNe] at hne'
          simp at hne'
          (try cbv)
          repeat' (first | (rw [hq]; (try cbv)) | (rw [hne]; (try cbv)) | ((refine call0 (hG _ _ _ hA) ?_); (try cbv)) | ((refine callB (hG _ _ _ hv) ?_; intro b hb; subst hb); (try cbv)) | ((refine callS (hG _ _ _ hI) ?_; intro b hb; subst hb); (try cbv)) | fail)
          rw [hr, if_neg (fun h => hne' h.2)]; rfl
    · skip
      rw [ha] at hA hr
      dsimp only at hA hr
      (try cbv)
      repeat' (first | (rw [hq]; (try cbv)) | ((refine call0 (hG _ _ _ hA) ?_); (try cbv)) | fail)
      rw [hr]; rfl
    · skip
      rw [ha] at hA hr
      dsimp only at hA hr
      (try cbv)
      repeat' (first | (rw [hq]; (try cbv)) | ((refine call0 (hG _ _ _ hA) ?_); (try cbv)) | fail)
      rw [hr]; rfl
end Go.Vi
namespace Go.Vi
open Go.Proofs
set_option maxRecDepth 100000
set_option linter.unusedVariables false
set_option linter.unusedSimpArgs false
theorem findM_cons (p : ByteArray × Mrk) (l : List (ByteArray × Mrk)) (s : ByteArray) : findM (p :: l) s = if p.1 = s then some p.2 else findM l s := by
  simp only [findM, List.find?_cons]
  by_cases h : p.1 = s <;> simp [h]
def meansS (nums : List Num) (names : List (List ByteArray)) (nots : List ByteArray) (s : ByteArray) : Mrk := match findM (lexP nums names nots) s with
  | some m => m
  | none => if 0 ≤ digS s then ⟨1, digS s⟩ else ⟨0, 0⟩
def meansR (s : ByteArray) : Option Mrk → R
  | some m => .one (true, [.int .u8 m.k, .int .i64 m.v])
  | none => if 0 ≤ digS s then .one (true, [.int .u8 1, .int .i64 (digS s)]) else .one (true, [.int .u8 0, .int .i64 0])
theorem g57R (nums : List Num) (names : List (List ByteArray)) (nots : List ByteArray) (e1 e2 e3 : List (List D)) (he1 : nuE nums e1) (he2 : nsE names e2) (he3 : txE nots e3) (hm1 : nums.length ≤ maxLen) (hm2 : names.length ≤ maxLen) (hm3 : nots.length ≤ maxLen) (hm4 : ∀ l ∈ names, l.length ≤ maxLen) (s : ByteArray) (hs : s.size ≤ maxLen) :
    GG 57 [(true, [.row 2 e1, .row 1 e2, .row 1 e3]), (false, [.str s])] (meansR s (findM (lexP nums names nots) s)) := by
  refine start c57 rfl ?_
  intro r' hr G hG hGW lt le eq add sub mul quo rem conv strEq strLt strCat strLen strAt strCut bytes ofBytes len nth cut fits app rep setEl look upd ne strNe H
  obtain ⟨F, hF⟩ : ∃ F : List (ByteArray × Mrk) → R, ∀ l, F l = meansR s (findM l s) := ⟨_, fun _ => rfl⟩
  have hT : ∀ p l, p.1 = s → F (p :: l) = .one (true, [.int .u8 p.2.k, .int .i64 p.2.v]) := fun p l h => by rw [hF, findM_cons, if_pos h]; rfl
  have hC : ∀ p l, p.1 ≠ s → F (p :: l) = F l := fun p l h => by rw [hF, hF, findM_cons, if_neg h]
  have hNil : F [] = meansR s none := hF []
  rw [← hF] at hr
  clear hF
  cbv
  refine loopK ?_
  intro K hK
  obtain ⟨N, hN⟩ : ∃ N, N = nums.length := ⟨_, rfl⟩
  obtain ⟨P, hP⟩ : ∃ P : Nat → Prop, ∀ k, P k = (r' = F ((nums.drop k).map numP ++ (namesP 0 names ++ nots.map notP))) := ⟨_, fun _ => rfl⟩
  refine loopU N (fun k => [(1, .v false [.d (.str s)]), (2, .v false [.loc 0 0]), (4, .v false [.loc 1 0]), (5, .v false [.d (.int .i64 (Int.ofNat k))])]) [(0, .blk [.d (.row 2 e1), .d (.row 1 e2), .d (.row 1 e3)]), (1, .blk [.d (.int .u8 0), .d (.int .i64 0)])] P ⟨rfl, rfl⟩ ?_ ?_
  · rw [hP, hr]; rfl
  intro k hk hr
  rw [hN] at hk
  rw [hP] at hr
  rcases hd : nums.drop k with _ | ⟨⟨xt, xv⟩, r⟩
  · have h1 := H.rowNil he1 hd hk
    rw [hd] at hr
    (try cbv)
    repeat' (first | (rw [h1]; (try cbv)) | fail)
    rw [hK]
    cbv
    refine loopK ?_
    intro K2 hK2
    obtain ⟨N2, hN2⟩ : ∃ N, N = names.length := ⟨_, rfl⟩
    obtain ⟨P2, hP2⟩ : ∃ P : Nat → Prop, ∀ k, P k = (r' = F (namesP k (names.drop k) ++ nots.map notP)) := ⟨_, fun _ => rfl⟩
    refine loopU N2 (fun k => [(1, .v false [.d (.str s)]), (2, .v false [.loc 0 0]), (4, .v false [.loc 1 0]), (6, .v false [.d (.int .i64 (Int.ofNat k))])]) [(0, .blk [.d (.row 2 e1), .d (.row 1 e2), .d (.row 1 e3)]), (1, .blk [.d (.int .u8 0), .d (.int .i64 0)])] P2 ⟨rfl, rfl⟩ ?_ ?_
    · rw [hP2, hr]; rfl
    intro i hi hr
    rw [hN2] at hi
    rw [hP2] at hr
    rcases hd : names.drop i with _ | ⟨x, r⟩
    · have h1 := H.rowNil he2 hd hi
      rw [hd] at hr
      (try cbv)
      repeat' (first | (rw [h1]; (try cbv)) | fail)
      rw [hK2]
      cbv
      refine loopK ?_
      intro K3 hK3
      obtain ⟨N3, hN3⟩ : ∃ N, N = nots.length := ⟨_, rfl⟩
      obtain ⟨P3, hP3⟩ : ∃ P : Nat → Prop, ∀ k, P k = (r' = F ((nots.drop k).map notP)) := ⟨_, fun _ => rfl⟩
      refine loopU N3 (fun k => [(1, .v false [.d (.str s)]), (2, .v false [.loc 0 0]), (4, .v false [.loc 1 0]), (8, .v false [.d (.int .i64 (Int.ofNat k))])]) [(0, .blk [.d (.row 2 e1), .d (.row 1 e2), .d (.row 1 e3)]), (1, .blk [.d (.int .u8 0), .d (.int .i64 0)])] P3 ⟨rfl, rfl⟩ ?_ ?_
      · rw [hP3, hr]; rfl
      intro k hk hr
      rw [hN3] at hk
      rw [hP3] at hr
      rcases hd : nots.drop k with _ | ⟨x, r⟩
      · have h1 := H.rowNil he3 hd hk
        rw [hd] at hr
        have hr : r' = meansR s none := by rw [hr]; exact hNil
        have h81 := g81 s hs
        rw [meansR] at hr
        generalize digS s = dg at hr h81
        have hle : le 0 dg = decide (0 ≤ dg) := H.le _ _
        by_cases h0 : 0 ≤ dg
        · rw [decide_eq_true h0] at hle
          rw [if_pos h0] at hr
          (try cbv)
          repeat' (first | (rw [h1]; (try cbv)) | (rw [hK3]; (try cbv)) | ((refine callI (hG _ _ _ h81) ?_; intro b hb; subst hb); (try cbv)) | (rw [hle]; (try cbv)) | fail)
          rw [hr]
        · rw [decide_eq_false h0] at hle
          rw [if_neg h0] at hr
          (try cbv)
          repeat' (first | (rw [h1]; (try cbv)) | (rw [hK3]; (try cbv)) | ((refine callI (hG _ _ _ h81) ?_; intro b hb; subst hb); (try cbv)) | (rw [hle]; (try cbv)) | fail)
          rw [hr]
      · obtain ⟨h1, h2, h3, h4, h5⟩ := H.rowCons he3 hm3 hd
        rw [hd] at hr
        cases h6 : strEq x s
        · have h7 : x ≠ s := of_decide_eq_false (by rw [← H.strEq]; exact h6)
          rw [List.map_cons, hC _ _ h7] at hr
          (try cbv)
          repeat' (first | (rw [h1]; (try cbv)) | (rw [h2]; (try cbv)) | (rw [h6]; (try cbv)) | fail)
          exact ⟨by rw [hN3]; exact h5, by rw [hP3, h4]; exact hr, by rw [h3], trivial⟩
        · have h7 : x = s := of_decide_eq_true (by rw [← H.strEq]; exact h6)
          rw [List.map_cons, hT _ _ h7] at hr
          (try cbv)
          repeat' (first | (rw [h1]; (try cbv)) | (rw [h2]; (try cbv)) | (rw [h6]; (try cbv)) | (rw [hK3]; (try cbv)) | (rw [hK2]; (try cbv)) | (rw [hK]; (try cbv)) | fail)
          rw [hr]; rfl
    · obtain ⟨h1, h2, h3, h4, h5⟩ := H.rowCons he2 hm2 hd
      have hx : x ∈ names := List.mem_of_getElem? (drop_cons hd).2.1
      have hxs := hm4 x hx
      obtain ⟨ex, hex⟩ : ∃ ex : List (List D), txE x ex := ⟨_, rfl⟩
      rw [← show _ = _ from hex] at h2
      rw [hd, namesP, List.append_assoc] at hr
      (try cbv)
      repeat' (first | (rw [h1]; (try cbv)) | (rw [h2]; (try cbv)) | fail)
      refine loopK ?_
      intro K3 hK3
      obtain ⟨N3, hN3⟩ : ∃ N, N = x.length := ⟨_, rfl⟩
      obtain ⟨P3, hP3⟩ : ∃ P : Nat → Prop, ∀ k, P k = (r' = F ((x.drop k).map (nameP i) ++ (namesP (i + 1) r ++ nots.map notP))) := ⟨_, fun _ => rfl⟩
      refine loopU N3 (fun k => [(1, .v false [.d (.str s)]), (2, .v false [.loc 0 0]), (4, .v false [.loc 1 0]), (6, .v false [.d (.int .i64 (Int.ofNat i))]), (7, .v false [.d (.int .i64 (Int.ofNat k))])]) [(0, .blk [.d (.row 2 e1), .d (.row 1 e2), .d (.row 1 e3)]), (1, .blk [.d (.int .u8 0), .d (.int .i64 0)])] P3 ⟨rfl, rfl⟩ ?_ ?_
      · rw [hP3, hr]; rfl
      intro k hk hr
      rw [hN3] at hk
      rw [hP3] at hr
      rcases hd3 : x.drop k with _ | ⟨y, q⟩
      · have g1 := H.rowNil hex hd3 hk
        rw [hd3] at hr
        (try cbv)
        repeat' (first | (rw [h1]; (try cbv)) | (rw [h2]; (try cbv)) | (rw [g1]; (try cbv)) | (rw [hK3]; (try cbv)) | fail)
        exact ⟨by rw [hN2]; exact h5, by rw [hP2, h4]; exact hr, by rw [h3], trivial⟩
      · obtain ⟨g1, g2, g3, g4, g5⟩ := H.rowCons hex hxs hd3
        rw [hd3] at hr
        cases h6 : strEq y s
        · have h7 : y ≠ s := of_decide_eq_false (by rw [← H.strEq]; exact h6)
          rw [List.map_cons, List.cons_append, hC _ _ h7] at hr
          (try cbv)
          repeat' (first | (rw [h2]; (try cbv)) | (rw [g1]; (try cbv)) | (rw [g2]; (try cbv)) | (rw [h6]; (try cbv)) | fail)
          exact ⟨by rw [hN3]; exact g5, by rw [hP3, g4]; exact hr, by rw [g3], trivial⟩
        · have h7 : y = s := of_decide_eq_true (by rw [← H.strEq]; exact h6)
          rw [List.map_cons, List.cons_append, hT _ _ h7] at hr
          (try cbv)
          repeat' (first | (rw [h2]; (try cbv)) | (rw [g1]; (try cbv)) | (rw [g2]; (try cbv)) | (rw [h6]; (try cbv)) | (rw [hK3]; (try cbv)) | (rw [hK2]; (try cbv)) | (rw [hK]; (try cbv)) | fail)
          rw [hr]; rfl
  · obtain ⟨h1, h2, h3, h4, h5⟩ := H.rowCons he1 hm1 hd
    rw [hd] at hr
    cases h6 : strEq xt s
    · have h7 : xt ≠ s := of_decide_eq_false (by rw [← H.strEq]; exact h6)
      rw [List.map_cons, List.cons_append, hC _ _ h7] at hr
      (try cbv)
      repeat' (first | (rw [h1]; (try cbv)) | (rw [h2]; (try cbv)) | (rw [h6]; (try cbv)) | fail)
      exact ⟨by rw [hN]; exact h5, by rw [hP, h4]; exact hr, by rw [h3], trivial⟩
    · have h7 : xt = s := of_decide_eq_true (by rw [← H.strEq]; exact h6)
      rw [List.map_cons, List.cons_append, hT _ _ h7] at hr
      (try cbv)
      repeat' (first | (rw [h1]; (try cbv)) | (rw [h2]; (try cbv)) | (rw [h6]; (try cbv)) | (rw [hK]; (try cbv)) | fail)
      rw [hr]; rfl
theorem meansR_eq (nums : List Num) (names : List (List ByteArray)) (nots : List ByteArray) (s : ByteArray) : meansR s (findM (lexP nums names nots) s) = .one (true, [.int .u8 (meansS nums names nots s).k, .int .i64 (meansS nums names nots s).v]) := by
  unfold meansS
  cases findM (lexP nums names nots) s with
  | some m => rfl
  | none =>
    simp only [meansR]
    split <;> rfl
def senseR (nums : List Num) (names : List (List ByteArray)) (nots : List ByteArray) (l : List ByteArray) : List Mrk := (l.map (meansS nums names nots)).filter fun m => decide (m.k ≠ 0)
theorem g25 (nums : List Num) (names : List (List ByteArray)) (nots : List ByteArray) (e1 e2 e3 : List (List D)) (he1 : nuE nums e1) (he2 : nsE names e2) (he3 : txE nots e3) (hm1 : nums.length ≤ maxLen) (hm2 : names.length ≤ maxLen) (hm3 : nots.length ≤ maxLen) (hm4 : ∀ l ∈ names, l.length ≤ maxLen)
    (l : List ByteArray) (es : List (List D)) (he : txE l es) (hl : l.length ≤ 100000) (hls : ∀ s ∈ l, s.size ≤ maxLen) :
    GG 25 [(true, [.row 2 e1, .row 1 e2, .row 1 e3]), (false, [.row 1 es])] (.one (false, [.row 2 ((senseR nums names nots l).map fun x => [.int .u8 x.k, .int .i64 x.v])])) := by
  have hl' : l.length ≤ maxLen := Nat.le_trans hl (by decide)
  have h57 : ∀ s ∈ l, GG 57 [(true, [.row 2 e1, .row 1 e2, .row 1 e3]), (false, [.str s])] (.one (true, [.int .u8 (meansS nums names nots s).k, .int .i64 (meansS nums names nots s).v])) := fun s hs => by
    rw [← meansR_eq]
    exact g57R nums names nots e1 e2 e3 he1 he2 he3 hm1 hm2 hm3 hm4 s (hls s hs)
  rw [senseR]
  generalize meansS nums names nots = M at h57
  refine start c25 rfl ?_
  intro r' hr G hG hGW lt le eq add sub mul quo rem conv strEq strLt strCat strLen strAt strCut bytes ofBytes len nth cut fits app rep setEl look upd ne strNe H
  obtain ⟨A, hA⟩ : ∃ A : Nat → List (List D), ∀ k, A k = ((((l.take k).map M).filter fun m => decide (m.k ≠ 0)).map fun x => [.int .u8 x.k, .int .i64 x.v]) := ⟨_, fun _ => rfl⟩
  cbv
  refine loopK ?_
  intro K hK
  obtain ⟨N, hN⟩ : ∃ N, N = l.length := ⟨_, rfl⟩
  obtain ⟨P, hP⟩ : ∃ P : Nat → Prop, ∀ k, P k = (True) := ⟨_, fun _ => rfl⟩
  refine loopV N (fun k => [(1, .v false [.d (.row 1 es)]), (2, .v false [.loc 0 0]), (5, .v false [.own 2]), (6, .v false [.d (.int .i64 (Int.ofNat k))])]) (fun k => [(0, .blk [.d (.row 2 e1), .d (.row 1 e2), .d (.row 1 e3)]), (1, .arr 113 2 []), (2, .arr 113 2 (A k))]) P ?_ ?_ ?_
  · rw [hA 0]; exact ⟨rfl, rfl⟩
  · rw [hP]; trivial
  intro k hk _
  rw [hN] at hk
  rcases hd : l.drop k with _ | ⟨x, r⟩
  · have h1 := H.rowNil he hd hk
    (try cbv)
    repeat' (first | (rw [h1]; (try cbv)) | (rw [hK]; (try cbv)) | fail)
    rw [hr, hA, drop_nil hd hk, List.take_length]
  · obtain ⟨h1, h2, h3, h4, h5⟩ := H.rowCons he hl' hd
    have hx : x ∈ l := List.mem_of_getElem? (drop_cons hd).2.1
    have h6 : ∀ x, fits 16 (app (A k) [x]) = true := fun x => H.fitsLe (by
      rw [H.app, hA]
      have := List.length_filter_le (fun m : Mrk => decide (m.k ≠ 0)) ((l.take k).map M)
      simp at this ⊢
      omega) (by decide)
    have hM := h57 x hx
    have hA1 : A (k + 1) = if (M x).k ≠ 0 then A k ++ [[.int .u8 (M x).k, .int .i64 (M x).v]] else A k := by
      rw [hA, hA, take_step _ hd, List.filter_append]
      by_cases h : (M x).k = 0 <;> simp [h]
    generalize M x = m at hM hA1
    obtain ⟨mk, mv⟩ := m
    dsimp only at hM hA1
    cases hne : ne mk 0
    · have hne' : mk = 0 := by have := of_decide_eq_false (by rw [← H.ne]; exact hne : decide (mk ≠ 0) = false); exact Classical.not_not.1 this
      rw [if_neg (by simp [hne'])] at hA1
      (try cbv)
      repeat' (first | (rw [h1]; (try cbv)) | (rw [h2]; (try cbv)) | (rw [hne]; (try cbv)) | ((refine ⟨_, hG _ _ _ hM, rfl, ?_⟩); (try cbv)) | fail)
      exact ⟨by rw [hN]; exact h5, by rw [hP]; trivial, by rw [h3], by rw [hA1]⟩
    · have hne' : mk ≠ 0 := of_decide_eq_true (by rw [← H.ne]; exact hne)
      rw [if_pos hne'] at hA1
      (try cbv)
      repeat' (first | (rw [h1]; (try cbv)) | (rw [h2]; (try cbv)) | (rw [hne]; (try cbv)) | (refine ⟨(h6 _), ?_⟩; (try cbv)) | (refine ⟨lenOne rfl, ?_⟩; (try cbv)) | ((refine ⟨_, hG _ _ _ hM, rfl, ?_⟩); (try cbv)) | fail)
      exact ⟨by rw [hN]; exact h5, by rw [hP]; trivial, by rw [h3], by rw [H.app, hA1]⟩
def senseM (L : List (ByteArray × Mrk)) (l : List ByteArray) : List Mrk := l.filterMap (markS L)
theorem g54 (L : List (ByteArray × Mrk)) (E : List (D × List D)) (hE : E = eM L) (l : List ByteArray) (es : List (List D)) (he : txE l es) (hl : l.length ≤ 100000) (hls : ∀ s ∈ l, s.size ≤ 281474976710656) :
    GG 54 [(false, [.rmap 2 E]), (false, [.row 1 es])] (.one (false, [.row 2 ((senseM L l).map fun x => [.int .u8 x.k, .int .i64 x.v])])) := by
  have hl' : l.length ≤ maxLen := Nat.le_trans hl (by decide)
  have h80 : ∀ s ∈ l, GG 80 [(false, [.rmap 2 E]), (false, [.str s])] (markR (markS L s)) := fun s hs => g80 L E hE s (hls s hs)
  rw [senseM]
  generalize markS L = M at h80
  clear hE L
  refine start c54 rfl ?_
  intro r' hr G hG hGW lt le eq add sub mul quo rem conv strEq strLt strCat strLen strAt strCut bytes ofBytes len nth cut fits app rep setEl look upd ne strNe H
  obtain ⟨A, hA⟩ : ∃ A : Nat → List (List D), ∀ k, A k = (((l.take k).filterMap M).map fun x => [.int .u8 x.k, .int .i64 x.v]) := ⟨_, fun _ => rfl⟩
  cbv
  refine loopK ?_
  intro K hK
  obtain ⟨N, hN⟩ : ∃ N, N = l.length := ⟨_, rfl⟩
  obtain ⟨P, hP⟩ : ∃ P : Nat → Prop, ∀ k, P k = (True) := ⟨_, fun _ => rfl⟩
  refine loopV N (fun k => [(0, .v false [.d (.rmap 2 E)]), (4, .v false [.own 0]), (9, .v false [.d (.row 1 es)]), (10, .v false [.d (.int .i64 (len es))]), (11, .v false [.d (.int .i64 (Int.ofNat k))])]) (fun k => [(0, .arr 79 2 (A k))]) P ?_ ?_ ?_
  · rw [hA 0]; exact ⟨rfl, rfl⟩
  · rw [hP]; trivial
  intro k hk _
  rw [hN] at hk
  rcases hd : l.drop k with _ | ⟨x, r⟩
  · have h1 := H.rowNil he hd hk
    (try cbv)
    repeat' (first | (rw [h1]; (try cbv)) | (rw [hK]; (try cbv)) | fail)
    rw [hr, hA, drop_nil hd hk, List.take_length]
  · obtain ⟨h1, h2, h3, h4, h5⟩ := H.rowCons he hl' hd
    have hx : x ∈ l := List.mem_of_getElem? (drop_cons hd).2.1
    have h6 : ∀ x, fits 16 (app (A k) [x]) = true := fun x => H.fitsLe (by
      rw [H.app, hA]
      have := List.length_filterMap_le M (l.take k)
      simp at this ⊢
      omega) (by decide)
    have hM := h80 x hx
    have hA1 : A (k + 1) = match M x with | some m => A k ++ [[.int .u8 m.k, .int .i64 m.v]] | none => A k := by
      have ht : l.take (k + 1) = l.take k ++ [x] := by have := take_step id hd; simpa using this
      rw [hA, hA, ht, List.filterMap_append]
      cases h : M x <;> simp [h]
    cases hm : M x with
    | none =>
      rw [hm] at hM hA1
      dsimp only [markR] at hM hA1
      (try cbv)
      repeat' (first | (rw [h1]; (try cbv)) | (rw [h2]; (try cbv)) | (refine ⟨(h6 _), ?_⟩; (try cbv)) | (refine ⟨lenOne rfl, ?_⟩; (try cbv)) | ((refine ⟨_, hG _ _ _ hM, rfl, ?_⟩); (try cbv)) | fail)
      exact ⟨by rw [hN]; exact h5, by rw [hP]; trivial, by rw [h3], by rw [hA1]⟩
    | some m =>
      obtain ⟨mk, mv⟩ := m
      rw [hm] at hM hA1
      dsimp only [markR] at hM hA1
      (try cbv)
      repeat' (first | (rw [h1]; (try cbv)) | (rw [h2]; (try cbv)) | (refine ⟨(h6 _), ?_⟩; (try cbv)) | (refine ⟨lenOne rfl, ?_⟩; (try cbv)) | ((refine ⟨_, hG _ _ _ hM, rfl, ?_⟩); (try cbv)) | fail)
      exact ⟨by rw [hN]; exact h5, by rw [hP]; trivial, by rw [h3], by rw [H.app, hA1]⟩
end Go.Vi
namespace Go.Vi
open Go.Proofs
set_option maxRecDepth 100000
set_option linter.unusedVariables false
set_option linter.unusedSimpArgs false
theorem g75 (l : List ByteArray) (es : List (List D)) (he : txE l es) : GG 75 [(false, [.row 1 es])] (.one (false, [.bool (decide (l.length ≤ 80))])) := by
  have hlen := map_len he
  refine start c75 rfl ?_
  intro r' hr G hG hGW lt le eq add sub mul quo rem conv strEq strLt strCat strLen strAt strCut bytes ofBytes len nth cut fits app rep setEl look upd ne strNe H
  have q := H.leK (c := 80) l.length 80 rfl
  rw [← hlen, ← H.len, hlen] at q
  rw [← q] at hr
  (try cbv)
  repeat' (first | fail)
  rw [hr]
theorem g76 (l : List ByteArray) (es : List (List D)) (he : txE l es) (hl : Short l) : GG 76 [(false, [.row 1 es])] (.one (false, [.bool (l.all textOk)])) := by
  refine start c76 rfl ?_
  intro r' hr G hG hGW lt le eq add sub mul quo rem conv strEq strLt strCat strLen strAt strCut bytes ofBytes len nth cut fits app rep setEl look upd ne strNe H
  (try cbv)
  repeat' (first | (refine callB (hG _ _ _ (g77t l es he hl)) ?_; intro b77t hb77t; (try cbv)) | fail)
  rw [hr, hb77t]
def listedS' (ls : List (List ByteArray)) : Int := if ls.all (fun l => decide (l.length ≤ 80)) then (if ls.all (fun l => l.all textOk) then 0 else 1) else 3
theorem g52 (ls : List (List ByteArray)) (es : List (List D)) (he : nsE ls es) (hl : ls.length ≤ maxLen) (hs : ∀ l ∈ ls, Short l) : GG 52 [(false, [.row 1 es])] (.one (false, [.int .i64 (listedS' ls)])) := by
  have h1 := g74 (fun l : List ByteArray => D.row 1 (l.map fun s => [.str s])) ls es he hl 75 [] [] (fun l => decide (l.length ≤ 80)) (fun x hx => g75 x _ rfl)
  have h2 := g74 (fun l : List ByteArray => D.row 1 (l.map fun s => [.str s])) ls es he hl 76 [] [] (fun l => l.all textOk) (fun x hx => g76 x _ rfl (hs x hx))
  rw [listedS']
  generalize ls.all (fun l => decide (l.length ≤ 80)) = p1 at h1 ⊢
  generalize ls.all (fun l => l.all textOk) = p2 at h2 ⊢
  refine start c52 rfl ?_
  intro r' hr G hG hGW lt le eq add sub mul quo rem conv strEq strLt strCat strLen strAt strCut bytes ofBytes len nth cut fits app rep setEl look upd ne strNe H
  cases p1
  · (try cbv)
    repeat' (first | ((refine callB (hG _ _ _ h1) ?_; intro b hb; subst hb); (try cbv)) | fail)
    rw [hr]; rfl
  · cases p2
    · (try cbv)
      repeat' (first | ((refine callB (hG _ _ _ h1) ?_; intro b hb; subst hb); (try cbv)) | ((refine callB (hG _ _ _ h2) ?_; intro b hb; subst hb); (try cbv)) | fail)
      rw [hr]; rfl
    · (try cbv)
      repeat' (first | ((refine callB (hG _ _ _ h1) ?_; intro b hb; subst hb); (try cbv)) | ((refine callB (hG _ _ _ h2) ?_; intro b hb; subst hb); (try cbv)) | fail)
      rw [hr]; rfl
/-- A lexicon in memory. -/
structure LexIn (nums : List Num) (names : List (List ByteArray)) (nots : List ByteArray) (e1 e2 e3 : List (List D)) : Prop where
  he1 : nuE nums e1
  he2 : nsE names e2
  he3 : txE nots e3
  hm1 : nums.length ≤ maxLen
  hm5 : ∀ x ∈ nums, x.t.size ≤ maxLen
  hm2 : names.length ≤ maxLen
  hm3 : Short nots
  hm4 : ∀ l ∈ names, Short l
def readE (nums : List Num) (names : List (List ByteArray)) (nots : List ByteArray) : Int := if lexOk nums names nots = true then (if keysOk (lexP nums names nots) = true then 0 else 6) else 1
theorem readR_ok {nums : List Num} {names : List (List ByteArray)} {nots : List ByteArray} (h : readE nums names nots = 0) : readR nums names nots = .many [(false, [.rmap 2 (eM (lexP nums names nots))]), (false, [.int .i64 0])] := by
  unfold readE at h
  unfold readR
  cases h1 : lexOk nums names nots <;> cases h2 : keysOk (lexP nums names nots) <;> simp [h1, h2] at h ⊢
theorem readR_bad {nums : List Num} {names : List (List ByteArray)} {nots : List ByteArray} (h : readE nums names nots ≠ 0) : readR nums names nots = .many [(false, [.map0]), (false, [.int .i64 (readE nums names nots)])] := by
  unfold readE at h ⊢
  unfold readR
  cases h1 : lexOk nums names nots <;> cases h2 : keysOk (lexP nums names nots) <;> simp [h1, h2] at h ⊢
theorem g58L {nums : List Num} {names : List (List ByteArray)} {nots : List ByteArray} {e1 e2 e3 : List (List D)} (hx : LexIn nums names nots e1 e2 e3) : GG 58 [(true, [.row 2 e1, .row 1 e2, .row 1 e3])] (readR nums names nots) :=
  g58 nums names nots e1 e2 e3 hx.he1 hx.he2 hx.he3 hx.hm1 hx.hm5 hx.hm2 hx.hm3 hx.hm4
def senseE (nums : List Num) (names : List (List ByteArray)) (nots : List ByteArray) (l : List ByteArray) : Int := if readE nums names nots = 0 then listedS' [l] else readE nums names nots
theorem listed_sizes {l : List ByteArray} (h : listedS' [l] = 0) : l.length ≤ 80 ∧ ∀ s ∈ l, textOk s = true := by
  unfold listedS' at h
  split at h
  · rename_i h1
    split at h
    · rename_i h2
      simp only [List.all_cons, List.all_nil, Bool.and_true, decide_eq_true_eq, List.all_eq_true] at h1 h2
      exact ⟨h1, h2⟩
    · cases h
  · cases h
theorem textOk_size {s : ByteArray} (h : textOk s = true) : s.size ≤ 32 := by
  unfold textOk at h
  simp only [Bool.and_eq_true, decide_eq_true_eq] at h
  omega
def senseRes (nums : List Num) (names : List (List ByteArray)) (nots : List ByteArray) (l : List ByteArray) : R :=
  if senseE nums names nots l = 0 then .many [(false, [.row 2 ((senseM (lexP nums names nots) l).map fun x => [.int .u8 x.k, .int .i64 x.v])]), (false, [.int .i64 0])] else .many [(false, [.row 2 []]), (false, [.int .i64 (senseE nums names nots l)])]
theorem g26 {nums : List Num} {names : List (List ByteArray)} {nots : List ByteArray} {e1 e2 e3 : List (List D)} (hx : LexIn nums names nots e1 e2 e3) (l : List ByteArray) (es : List (List D)) (he : txE l es) (hl : Short l) :
    GG 26 [(true, [.row 2 e1, .row 1 e2, .row 1 e3]), (false, [.row 1 es])] (senseRes nums names nots l) := by
  have h58 := g58L hx
  have h52 := g52 [l] [[.row 1 es]] (by rw [nsE, he]; rfl) (by simp [maxLen]) (by simpa using hl)
  unfold senseRes senseE
  by_cases h0 : readE nums names nots = 0
  · rw [readR_ok h0] at h58
    rw [if_pos h0]
    by_cases h2 : listedS' [l] = 0
    · obtain ⟨h3, h4⟩ := listed_sizes h2
      have h54 := g54 (lexP nums names nots) (eM (lexP nums names nots)) rfl l es he (by omega) (fun s hs => by have := textOk_size (h4 s hs); omega)
      rw [if_pos h2]
      rw [h2] at h52
      generalize eM (lexP nums names nots) = E at h58 h54
      generalize (senseM (lexP nums names nots) l).map (fun x => [D.int .u8 x.k, D.int .i64 x.v]) = S at h54 ⊢
      clear hx h0 h2 h3 h4
      refine start c26 rfl ?_
      intro r' hr G hG hGW lt le eq add sub mul quo rem conv strEq strLt strCat strLen strAt strCut bytes ofBytes len nth cut fits app rep setEl look upd ne strNe H
      have n0 : ne 0 0 = false := by rw [H.ne]; rfl
      (try cbv)
      repeat' (first | ((refine call0 (hG _ _ _ h58) ?_); (try cbv)) | (rw [n0]; (try cbv)) | ((refine callI (hG _ _ _ h52) ?_; intro b hb; subst hb); (try cbv)) | ((refine call0 (hG _ _ _ h54) ?_); (try cbv)) | fail)
      rw [hr]
    · rw [if_neg h2]
      generalize eM (lexP nums names nots) = E at h58
      generalize listedS' [l] = c at h52 h2 ⊢
      clear hx h0
      refine start c26 rfl ?_
      intro r' hr G hG hGW lt le eq add sub mul quo rem conv strEq strLt strCat strLen strAt strCut bytes ofBytes len nth cut fits app rep setEl look upd ne strNe H
      have n0 : ne 0 0 = false := by rw [H.ne]; rfl
      have n1 : ne c 0 = true := by rw [H.ne]; simpa using h2
      (try cbv)
      repeat' (first | ((refine call0 (hG _ _ _ h58) ?_); (try cbv)) | (rw [n0]; (try cbv)) | ((refine callI (hG _ _ _ h52) ?_; intro b hb; subst hb); (try cbv)) | (rw [n1]; (try cbv)) | fail)
      rw [hr]
  · rw [readR_bad h0] at h58
    rw [if_neg h0, if_neg h0]
    generalize readE nums names nots = c at h58 h0 ⊢
    clear hx
    refine start c26 rfl ?_
    intro r' hr G hG hGW lt le eq add sub mul quo rem conv strEq strLt strCat strLen strAt strCut bytes ofBytes len nth cut fits app rep setEl look upd ne strNe H
    have n1 : ne c 0 = true := by rw [H.ne]; simpa using h0
    (try cbv)
    repeat' (first | ((refine call0 (hG _ _ _ h58) ?_); (try cbv)) | (rw [n1]; (try cbv)) | fail)
    rw [hr]
def ruledE (nums : List Num) (names : List (List ByteArray)) (nots : List ByteArray) (sw : List Swp) : Int := if readE nums names nots = 0 then swapsFault sw else readE nums names nots
def ruledR (nums : List Num) (names : List (List ByteArray)) (nots : List ByteArray) (sw : List Swp) (es : List (List D)) : R :=
  if ruledE nums names nots sw = 0 then .many [(true, [.rmap 2 (eM (lexP nums names nots)), .row 3 es]), (false, [.int .i64 0])] else .many [(true, [.map0, .row 3 []]), (false, [.int .i64 (ruledE nums names nots sw)])]
theorem g51 {nums : List Num} {names : List (List ByteArray)} {nots : List ByteArray} {e1 e2 e3 : List (List D)} (hx : LexIn nums names nots e1 e2 e3) (sw : List Swp) (es : List (List D)) (he : swE sw es) (hl : sw.length ≤ maxLen) :
    GG 51 [(true, [.row 2 e1, .row 1 e2, .row 1 e3]), (false, [.row 3 es])] (ruledR nums names nots sw es) := by
  have h58 := g58L hx
  have hlen := map_len he
  have h73 := g73 (fun x : Swp => D.int .u8 x.k) (fun x => D.int .i64 x.o) (fun x => D.int .i64 x.n) sw es he hl 71 [] [] Swp.ok (fun x hx => g71 x.k x.o x.n)
  unfold ruledR ruledE
  by_cases h0 : readE nums names nots = 0
  · rw [readR_ok h0] at h58
    rw [if_pos h0]
    generalize eM (lexP nums names nots) = E at h58 ⊢
    rw [swapsFault]
    by_cases h2 : 20 < sw.length
    · rw [if_pos h2, if_neg (by decide)]
      refine start c51 rfl ?_
      intro r' hr G hG hGW lt le eq add sub mul quo rem conv strEq strLt strCat strLen strAt strCut bytes ofBytes len nth cut fits app rep setEl look upd ne strNe H
      have n0 : ne 0 0 = false := by rw [H.ne]; rfl
      have n1 : lt 20 (len es) = true := by rw [H.len, hlen, H.gtK (c := 20) _ 20 rfl, decide_eq_true h2]
      clear hx
      (try cbv)
      repeat' (first | ((refine call0 (hG _ _ _ h58) ?_); (try cbv)) | (rw [n0]; (try cbv)) | (rw [n1]; (try cbv)) | fail)
      rw [hr]
    · rw [if_neg h2]
      generalize sw.all Swp.ok = p at h73 ⊢
      refine start c51 rfl ?_
      intro r' hr G hG hGW lt le eq add sub mul quo rem conv strEq strLt strCat strLen strAt strCut bytes ofBytes len nth cut fits app rep setEl look upd ne strNe H
      have n0 : ne 0 0 = false := by rw [H.ne]; rfl
      have n1 : lt 20 (len es) = false := by rw [H.len, hlen, H.gtK (c := 20) _ 20 rfl, decide_eq_false h2]
      clear hx
      (try cbv)
      repeat' (first | ((refine call0 (hG _ _ _ h58) ?_); (try cbv)) | (rw [n0]; (try cbv)) | (rw [n1]; (try cbv)) | ((refine callB (hG _ _ _ h73) ?_; intro b hb; subst hb; cases b); (try cbv)) | fail)
      all_goals (rw [hr]; rfl)
  · rw [readR_bad h0] at h58
    rw [if_neg h0, if_neg h0]
    generalize readE nums names nots = c at h58 h0 ⊢
    clear hx
    refine start c51 rfl ?_
    intro r' hr G hG hGW lt le eq add sub mul quo rem conv strEq strLt strCat strLen strAt strCut bytes ofBytes len nth cut fits app rep setEl look upd ne strNe H
    have n1 : ne c 0 = true := by rw [H.ne]; simpa using h0
    (try cbv)
    repeat' (first | ((refine call0 (hG _ _ _ h58) ?_); (try cbv)) | (rw [n1]; (try cbv)) | fail)
    rw [hr]
end Go.Vi
