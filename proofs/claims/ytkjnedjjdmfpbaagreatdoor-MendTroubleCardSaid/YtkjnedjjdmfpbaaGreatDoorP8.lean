/-
  The examples; typed data.
-/
import Derived.Lib.ItoaNum
import Derived.Lib.AtoiAll
import Derived.Test.YtkjnedjjdmfpbaaGreatDoorP4
import Derived.Test.YtkjnedjjdmfpbaaGreatDoorP7
import Derived.KernelRfl
set_option linter.unusedVariables false
set_option linter.unusedSimpArgs false
set_option linter.unusedSectionVars false
namespace Go.Vi
def digL (n : Int) : List UInt8 → Int
  | [] => n
  | b :: r => if b.toNat < 48 ∨ 57 < b.toNat then -1 else digL (10 * n + ((b.toNat : Int) - 48)) r
/-- The number that digits spell. -/
def valD : Nat → List Nat → Nat
  | n, [] => n
  | n, d :: r => valD (10 * n + d) r
theorem valD_nil (n : Nat) : valD n [] = n := rfl
theorem valD_cons (n d : Nat) (r : List Nat) : valD n (d :: r) = valD (10 * n + d) r := rfl
def dv (b : UInt8) : Nat := b.toNat - 48
theorem dv_eq (b : UInt8) : dv b = b.toNat - 48 := by unfold dv; exact Eq.refl _
def valN (n : Nat) (l : List UInt8) : Nat := valD n (l.map dv)
theorem valN_nil (n : Nat) : valN n [] = n := by rw [valN, List.map_nil, valD_nil]
theorem valN_cons (n : Nat) (b : UInt8) (r : List UInt8) : valN n (b :: r) = valN (10 * n + (b.toNat - 48)) r := by rw [valN, List.map_cons, valD_cons, dv_eq, valN]
def isDig (b : UInt8) : Bool := decide (48 ≤ b.toNat) && decide (b.toNat ≤ 57)
theorem digL_val : ∀ (l : List UInt8) (n : Nat), digL n l = bif l.all isDig then (valN n l : Int) else -1
  | [], n => by rw [digL, valN_nil, List.all_nil, cond_true]
  | b :: r, n => by
    rw [digL, List.all_cons, valN_cons]
    by_cases h : b.toNat < 48 ∨ 57 < b.toNat
    · have : isDig b = false := by
        simp only [isDig, Bool.and_eq_false_iff, decide_eq_false_iff_not]
        omega
      rw [if_pos h, this]
      rfl
    · have hd : isDig b = true := by
        simp only [isDig, Bool.and_eq_true, decide_eq_true_eq]
        omega
      have := digL_val r (10 * n + (b.toNat - 48))
      have e : (10 * (n : Int) + ((b.toNat : Int) - 48)) = ((10 * n + (b.toNat - 48) : Nat) : Int) := by omega
      rw [if_neg h, e, this, hd, Bool.true_and]
theorem valN_append : ∀ (l : List UInt8) (n : Nat) (b : UInt8), valN n (l ++ [b]) = 10 * valN n l + (b.toNat - 48)
  | [], n, b => by rw [List.nil_append, valN_cons, valN_nil, valN_nil]
  | c :: r, n, b => by rw [List.cons_append, valN_cons, valN_append r, valN_cons]
theorem valN_lt : ∀ (l : List UInt8) (n : Nat), l.all isDig = true → valN n l < (n + 1) * 10 ^ l.length
  | [], n, _ => by rw [valN_nil, List.length_nil, Nat.pow_zero]; omega
  | b :: r, n, h => by
    simp only [List.all_cons, Bool.and_eq_true, isDig, decide_eq_true_eq] at h
    have := valN_lt r (10 * n + (b.toNat - 48)) h.2
    rw [valN_cons, List.length_cons, Nat.pow_succ]
    refine Nat.lt_of_lt_of_le this ?_
    have h2 : 10 * n + (b.toNat - 48) + 1 ≤ (n + 1) * 10 := by omega
    calc _ ≤ ((n + 1) * 10) * 10 ^ r.length := Nat.mul_le_mul_right _ h2
      _ = _ := by rw [Nat.mul_assoc, Nat.mul_comm 10]
theorem valN_ge : ∀ (l : List UInt8) (n : Nat), n * 10 ^ l.length ≤ valN n l
  | [], n => by rw [valN_nil, List.length_nil, Nat.pow_zero]; omega
  | b :: r, n => by
    have := valN_ge r (10 * n + (b.toNat - 48))
    rw [valN_cons, List.length_cons, Nat.pow_succ]
    refine Nat.le_trans ?_ this
    calc n * (10 ^ r.length * 10) = (10 * n) * 10 ^ r.length := by rw [Nat.mul_comm (10 ^ r.length), ← Nat.mul_assoc, Nat.mul_comm n]
      _ ≤ _ := Nat.mul_le_mul_right _ (by omega)
/-- Digits without zeros ahead. -/
def canon : List UInt8 → Bool
  | [] => false
  | b :: r => (b :: r).all isDig && (decide (b.toNat ≠ 48) || r.isEmpty)
theorem canon_digits : ∀ (n : Nat) (l : List UInt8), l.length = n → canon l = true → Lib.decDigits (valN 0 l) = l := by
  intro n
  induction n with
  | zero =>
    intro l hl h
    rw [List.length_eq_zero_iff.1 hl] at h
    cases h
  | succ n ih =>
    intro l hl h
    obtain ⟨l', b, rfl⟩ : ∃ l' b, l = l' ++ [b] := ⟨l.dropLast, l.getLast (by intro h0; subst h0; cases h), (List.dropLast_concat_getLast _).symm⟩
    rw [valN_append]
    have hb : 48 ≤ b.toNat ∧ b.toNat ≤ 57 := by
      cases l' with
      | nil =>
        simp only [List.nil_append, canon, List.all_cons, List.all_nil, Bool.and_true, Bool.and_eq_true, isDig, decide_eq_true_eq] at h
        exact h.1
      | cons c r =>
        simp only [List.cons_append, canon, List.all_cons, List.all_append, List.all_nil, Bool.and_true, Bool.and_eq_true, isDig, decide_eq_true_eq] at h
        exact h.1.2.2
    have hbb : UInt8.ofNat (48 + (b.toNat - 48)) = b := by
      rw [show 48 + (b.toNat - 48) = b.toNat by omega]
      simp
    cases l' with
    | nil =>
      rw [valN_nil, List.nil_append, Lib.decDigits_one (by omega)]
      rw [show 10 * 0 + (b.toNat - 48) = b.toNat - 48 by omega, hbb]
    | cons c r =>
      have hc : canon (c :: r) = true := by
        simp only [List.cons_append, canon, List.all_cons, List.all_append, List.all_nil, Bool.and_true, Bool.and_eq_true, Bool.or_eq_true] at h
        simp only [canon, List.all_cons, Bool.and_eq_true, Bool.or_eq_true]
        refine ⟨⟨h.1.1, h.1.2.1⟩, .inl ?_⟩
        rcases h.2 with h2 | h2
        · exact h2
        · simp at h2
      have hv : 1 ≤ valN 0 (c :: r) := by
        simp only [canon, List.all_cons, Bool.and_eq_true, Bool.or_eq_true, isDig, decide_eq_true_eq, List.isEmpty_iff] at hc
        simp only [List.cons_append, canon, List.all_cons, List.all_append, List.all_nil, Bool.and_true, Bool.and_eq_true, Bool.or_eq_true, decide_eq_true_eq] at h
        have hc48 : c.toNat ≠ 48 := by
          rcases h.2 with h2 | h2
          · exact h2
          · simp at h2
        have := valN_ge r (10 * 0 + (c.toNat - 48))
        rw [valN_cons]
        have h1 : 1 ≤ 10 * 0 + (c.toNat - 48) := by have := hc.1.1; omega
        exact Nat.le_trans (Nat.le_trans h1 (Nat.le_mul_of_pos_right _ (Nat.pow_pos (by decide)))) this
      have hih := ih (c :: r) (by simp at hl ⊢; omega) hc
      rw [Lib.decDigits, dif_neg (by omega), show (10 * valN 0 (c :: r) + (b.toNat - 48)) / 10 = valN 0 (c :: r) by omega, show (10 * valN 0 (c :: r) + (b.toNat - 48)) % 10 = b.toNat - 48 by omega, hih, hbb]
theorem decDigits_canon : ∀ (u : Nat), canon (Lib.decDigits u) = true ∧ valN 0 (Lib.decDigits u) = u := by
  intro u
  induction u using Nat.strongRecOn with
  | ind u ih =>
    rw [Lib.decDigits]
    split
    · rename_i h
      have : (UInt8.ofNat (48 + u)).toNat = 48 + u := by simp; omega
      refine ⟨?_, ?_⟩
      · simp only [canon, List.all_cons, List.all_nil, Bool.and_true, isDig, this, List.isEmpty_nil, Bool.or_true, Bool.and_eq_true, decide_eq_true_eq]
        omega
      · rw [valN_cons, valN_nil, this]; omega
    · rename_i h
      obtain ⟨h1, h2⟩ := ih (u / 10) (by omega)
      have hb : (UInt8.ofNat (48 + u % 10)).toNat = 48 + u % 10 := by simp; omega
      refine ⟨?_, by rw [valN_append, h2, hb]; omega⟩
      cases hd : Lib.decDigits (u / 10) with
      | nil => rw [hd] at h1; cases h1
      | cons c r =>
        rw [hd] at h1 h2
        simp only [canon, List.all_cons, Bool.and_eq_true, Bool.or_eq_true, decide_eq_true_eq, List.isEmpty_iff] at h1
        simp only [List.cons_append, canon, List.all_cons, List.all_append, List.all_nil, Bool.and_true, Bool.and_eq_true, Bool.or_eq_true, decide_eq_true_eq]
        refine ⟨⟨h1.1.1, h1.1.2, ?_⟩, .inl ?_⟩
        · simp only [isDig, hb, Bool.and_eq_true, decide_eq_true_eq]; omega
        · rcases h1.2 with h3 | h3
          · exact h3
          · subst h3
            rw [valN_cons, valN_nil] at h2
            have := h1.1.1
            simp only [isDig, Bool.and_eq_true, decide_eq_true_eq] at this
            omega
end Go.Vi
namespace Go.Vi
open Go.Proofs
theorem digGo_L : ∀ (l : List UInt8) (n : Int), digGo n l = digL n l
  | [], n => by rw [digGo, digL]
  | b :: r, n => by rw [digGo, digL, digGo_L r]
theorem canon_pos {c d : UInt8} {r : List UInt8} (h : canon (c :: d :: r) = true) : 10 ^ (r.length + 1) ≤ valN 0 (c :: d :: r) := by
  simp only [canon, List.all_cons, Bool.and_eq_true, Bool.or_eq_true, decide_eq_true_eq, List.isEmpty_cons, Bool.false_eq_true, or_false, isDig] at h
  rw [valN_cons]
  have := valN_ge (d :: r) (10 * 0 + (c.toNat - 48))
  refine Nat.le_trans ?_ this
  rw [List.length_cons]
  exact Nat.le_mul_of_pos_left _ (by omega)
theorem canon_len {l : List UInt8} (h : canon l = true) (hv : valN 0 l ≤ 999999999) : l.length ≤ 9 := by
  match l, h, hv with
  | [c], _, _ => simp
  | c :: d :: r, h, hv =>
    have h1 := canon_pos h
    have h2 : 10 ^ (r.length + 1) < 10 ^ 9 := by omega
    have := (Nat.pow_lt_pow_iff_right (by decide)).1 h2
    simp only [List.length_cons]
    omega
theorem digS_canon (s : ByteArray) : digS s = bif canon s.data.toList && decide (s.data.toList.length ≤ 9) then (valN 0 s.data.toList : Int) else -1 := by
  unfold digS
  cases s.data.toList with
  | nil => rfl
  | cons b r =>
    dsimp only
    by_cases h9 : 9 < (b :: r).length
    · rw [if_pos h9, decide_eq_false (by omega), Bool.and_false, cond_false]
    · rw [if_neg h9, decide_eq_true (by omega), Bool.and_true]
      by_cases h48 : b.toNat = 48 ∧ r ≠ []
      · have : canon (b :: r) = false := by
          have h1 : decide (b.toNat ≠ 48) = false := decide_eq_false (fun h => h h48.1)
          have h2 : r.isEmpty = false := by cases r with
            | nil => exact absurd rfl h48.2
            | cons _ _ => rfl
          rw [canon, h1, h2]
          simp
        rw [if_pos h48, this, cond_false]
      · have hc : canon (b :: r) = (b :: r).all isDig := by
          rw [canon]
          have : (decide (b.toNat ≠ 48) || r.isEmpty) = true := by
            by_cases h : b.toNat = 48
            · have : r = [] := Classical.not_not.1 fun h2 => h48 ⟨h, h2⟩
              rw [this]; simp
            · rw [decide_eq_true h]; rfl
          rw [this, Bool.and_true]
        rw [if_neg h48, digGo_L, hc]
        exact digL_val (b :: r) 0
theorem parse_ok : ∀ (l : List UInt8) (n : Nat), l.all isDig = true → valN n l < 1000000000000 → Lib.parseUint10 n l = .ok (valN n l)
  | [], n, _, _ => by rw [Lib.parseUint10, valN_nil]
  | b :: r, n, h, hv => by
    simp only [List.all_cons, Bool.and_eq_true, isDig, decide_eq_true_eq] at h
    rw [valN_cons] at hv ⊢
    have h1 := valN_ge r (10 * n + (b.toNat - 48))
    have h2 : 10 * n + (b.toNat - 48) ≤ valN (10 * n + (b.toNat - 48)) r := Nat.le_trans (Nat.le_mul_of_pos_right _ (Nat.pow_pos (by decide))) h1
    rw [Lib.parseUint10, if_pos h.1, if_neg (by omega), if_neg (by omega), Nat.mul_comm n 10]
    exact parse_ok r _ h.2 hv
theorem atoi_canon {l : List UInt8} (h : canon l = true) (h9 : l.length ≤ 9) : Lib.atoiAll l = .ok (valN 0 l) ∧ valN 0 l ≤ 999999999 := by
  match l, h, h9 with
  | b :: r, h, h9 =>
    have hd : (b :: r).all isDig = true := by
      rw [canon, Bool.and_eq_true] at h
      exact h.1
    have hb : 48 ≤ b.toNat ∧ b.toNat ≤ 57 := by
      rw [List.all_cons, Bool.and_eq_true, isDig, Bool.and_eq_true, decide_eq_true_eq, decide_eq_true_eq] at hd
      exact hd.1
    have hlt := valN_lt (b :: r) 0 hd
    have h10 : 10 ^ (b :: r).length ≤ 10 ^ 9 := Nat.pow_le_pow_right (by decide) h9
    have hv : valN 0 (b :: r) ≤ 999999999 := by omega
    have hp := parse_ok (b :: r) 0 hd (by omega)
    refine ⟨?_, hv⟩
    have hne : ¬ (b.toNat = 43 ∨ b.toNat = 45) := by omega
    have hn : ¬ b.toNat = 45 := by omega
    simp only [Lib.atoiAll, if_neg hne, Lib.parseMag, if_neg (List.cons_ne_nil b r), hp, if_neg (show ¬ (¬ b.toNat = 45 ∧ 9223372036854775808 ≤ valN 0 (b :: r)) by omega), if_neg (show ¬ (b.toNat = 45 ∧ 9223372036854775808 < valN 0 (b :: r)) by omega), if_neg hn]
theorem numS_dig (s : ByteArray) : numS s = if 0 ≤ digS s then some (digS s) else none := by
  rw [digS_canon]
  have hs : (⟨s.data.toList.toArray⟩ : ByteArray) = s := by cases s; simp
  cases hc : canon s.data.toList && decide (s.data.toList.length ≤ 9) with
  | true =>
    rw [Bool.and_eq_true, decide_eq_true_eq] at hc
    obtain ⟨h1, h2⟩ := atoi_canon hc.1 hc.2
    rw [cond_true, if_pos (Int.natCast_nonneg _), numS, h1]
    dsimp only
    rw [if_pos]
    refine ⟨by simp only [valOk, inR, Bool.and_eq_true, decide_eq_true_eq]; omega, ?_⟩
    rw [itoaS, Lib.itoa, if_neg (by omega), Int.toNat_natCast, canon_digits _ _ rfl hc.1, hs]
  | false =>
    rw [cond_false, if_neg (by decide)]
    cases hn : numS s with
    | none => rfl
    | some v =>
      exfalso
      unfold numS at hn
      split at hn
      · split at hn
        · rename_i u heq h
          obtain ⟨hv, hi⟩ := h
          simp only [valOk, inR, Bool.and_eq_true, decide_eq_true_eq] at hv
          have hl : s.data.toList = Lib.decDigits u.toNat := by
            rw [← hi, itoaS, Lib.itoa, if_neg (by omega)]
          obtain ⟨h1, h2⟩ := decDigits_canon u.toNat
          rw [← hl] at h1 h2
          rw [h1, decide_eq_true (canon_len h1 (by omega))] at hc
          cases hc
        · cases hn
      · cases hn
end Go.Vi
namespace Go.Vi
open Go.Proofs
set_option maxRecDepth 100000
def markC (L : List (ByteArray × Mrk)) (s : ByteArray) : Option Mrk := match findM L s with
  | some m => some m
  | none => if 0 ≤ digS s then some ⟨1, digS s⟩ else none
theorem markS_eq : markS = markC := by
  funext L s
  rw [markS, markC, numS_dig]
  cases findM L s with
  | some m => rfl
  | none =>
    dsimp only
    split <;> rfl
def senseC (L : List (ByteArray × Mrk)) (l : List ByteArray) : List Mrk := l.filterMap (markC L)
theorem senseM_eq : senseM = senseC := by
  funext L l
  rw [senseM, senseC, markS_eq]
def refC (L : List (ByteArray × Mrk)) (sw : List Swp) (l : List Sd) (o w : Int) (acc : List Rq) (q : Rq) : Int :=
  firstBad [(insideS l.length q.frm q.cut, 2), (properS q.by' q.cut q.put, 1), (ownS l q.frm.toNat q.cut.toNat q.by', 5), (inR q.minute o (w64 (o + w)), 11), (eqGo (mayB sw) (senseC L (oldsS l q.frm.toNat (q.frm.toNat + q.cut.toNat))) (senseC L q.put), 9), (freeS acc q.frm q.cut, 6)]
theorem refS_eq : refS = refC := by
  funext L sw l o w acc q
  simp only [refS, refC, keptS, senseM_eq]
def exT7 : List ByteArray := [⟨#[83, 109, 121, 116, 104]⟩, ⟨#[100, 105, 100]⟩, ⟨#[110, 111, 116]⟩, ⟨#[112, 97, 121]⟩, ⟨#[116, 101, 110]⟩, ⟨#[48, 48, 55]⟩, ⟨#[56]⟩]
def exA : List ByteArray := [⟨#[110, 111, 116]⟩, ⟨#[116, 101, 110]⟩]
def exB : List ByteArray := [⟨#[110, 101, 118, 101, 114]⟩, ⟨#[49, 50]⟩]
theorem ex1 : readE exNums exNames exNots = 0 := by kernel_rfl
theorem ex2 : listedS' [exT7] = 0 := by kernel_rfl
theorem ex3 : senseM (lexP exNums exNames exNots) exT7 = [⟨2, 0⟩, ⟨3, 0⟩, ⟨1, 10⟩, ⟨1, 8⟩] := by
  rw [senseM_eq]
  kernel_rfl
theorem ex4 : ruledE exNums exNames exNots exSw = 0 := by kernel_rfl
theorem ex5 : listedS' [exA, exB] = 0 := by kernel_rfl
theorem ex6 : troubleN exNums exNames exNots exSw exA exB = 0 := by
  have h1 : senseM (lexP exNums exNames exNots) exA = [⟨3, 0⟩, ⟨1, 10⟩] := by
    rw [senseM_eq]
    kernel_rfl
  have h2 : senseM (lexP exNums exNames exNots) exB = [⟨3, 0⟩, ⟨1, 12⟩] := by
    rw [senseM_eq]
    kernel_rfl
  rw [troubleN, h1, h2]
  simp [levS, mayB, exSw]
  rfl
theorem ex7 : decE exNums exNames exNots exSw exWords 100 60 exRq.length = 0 := by kernel_rfl
theorem ex8 : errsS exNums exNames exNots exSw exWords 100 60 exRq = [0, 0, 5, 11, 9] := by
  rw [errsS, refL, refS_eq]
  kernel_rfl
end Go.Vi
namespace Go.Vi
open Go.Proofs
set_option maxRecDepth 100000
set_option linter.unusedVariables false
set_option linter.unusedSimpArgs false
theorem exLex : LexIn exNums exNames exNots (exNums.map fun x => [.str x.t, .int .i64 x.v]) (exNames.map fun x => [.row 1 (x.map fun s => [.str s])]) (txD exNots) where
  he1 := rfl
  he2 := rfl
  he3 := rfl
  hm1 := by decide
  hm5 := by decide
  hm2 := by decide
  hm3 := ⟨by decide, by decide⟩
  hm4 := by unfold Short; decide
theorem exAsk : AskIn exNums exNames exNots (exNums.map fun x => [.str x.t, .int .i64 x.v]) (exNames.map fun x => [.row 1 (x.map fun s => [.str s])]) (txD exNots) exSw (exSw.map fun x => [.int .u8 x.k, .int .i64 x.o, .int .i64 x.n]) exWords (exWords.map fun x => [.str x.t, .int .i64 x.sp]) exRq (exRq.map rqD) where
  lex := exLex
  hse := rfl
  hsl := by decide
  he := rfl
  hl := by decide
  hls := by decide
  hq := rfl
  hql := by decide
  hqs := by
    intro q hq
    simp only [exRq, List.mem_cons, List.not_mem_nil, or_false] at hq
    rcases hq with rfl | rfl | rfl | rfl | rfl <;> exact ⟨by decide, by unfold Short; decide⟩
theorem g17 : GG 17 [] (.one (false, [.bool true])) := by
  have h26 := g26 exLex exT7 (txD exT7) rfl (by unfold Short; decide)
  have h18 := g18 exLex exSw _ rfl (by decide) exA exB (txD exA) (txD exB) rfl rfl (by unfold Short; decide) (by unfold Short; decide)
  have h29 := g29 exAsk 100 60
  have h41 := g41 [⟨2, 0⟩, ⟨3, 0⟩, ⟨1, 10⟩, ⟨1, 8⟩] [⟨2, 0⟩, ⟨3, 0⟩, ⟨1, 10⟩, ⟨1, 8⟩] _ _ rfl rfl (by decide) (by decide)
  have h50 := g50 [0, 0, 5, 11, 9] [0, 0, 5, 11, 9] _ _ rfl rfl (by decide) (by decide)
  rw [decide_eq_true rfl] at h41 h50
  rw [senseRes, senseE, ex1, ex2, if_pos rfl, if_pos rfl, ex3] at h26
  rw [troubleR, troubleE, ex4, if_pos rfl, ex5, if_pos rfl, ex6] at h18
  rw [decideR, ex7, if_pos rfl, ex8] at h29
  have h48 := g48
  have h49 := g49
  generalize (exNums.map fun x => [D.str x.t, D.int .i64 x.v]) = e1 at *
  generalize (exNames.map fun x => [D.row 1 (x.map fun s => [D.str s])]) = e2 at *
  generalize txD exNots = e3 at *
  generalize (exSw.map fun x => [D.int .u8 x.k, D.int .i64 x.o, D.int .i64 x.n]) = se at *
  generalize (exWords.map fun x => [D.str x.t, D.int .i64 x.sp]) = we at *
  generalize (exRq.map rqD) = qe at *
  simp only [List.map_cons, List.map_nil, exT7, exA, exB, txD] at h26 h18 h29 h41 h50
  refine start c17 rfl ?_
  intro r' hr G hG hGW lt le eq add sub mul quo rem conv strEq strLt strCat strLen strAt strCut bytes ofBytes len nth cut fits app rep setEl look upd ne strNe H
  have z0 : eq 0 0 = true := by rw [H.eq]; rfl
  (try cbv)
  repeat' (first | ((refine call0 (hG _ _ _ h48) ?_); (try cbv)) | ((refine call0 (hG _ _ _ h26) ?_); (try cbv)) | ((refine ⟨_, hG _ _ _ h18, rfl, ?_⟩); (try cbv)) | ((refine call0 (hG _ _ _ h49) ?_); (try cbv)) | ((refine call0 (hG _ _ _ h29) ?_); (try cbv)) | (rw [z0]; (try cbv)) | ((refine callB (hG _ _ _ h41) ?_; intro b hb; subst hb); (try cbv)) | ((refine callB (hG _ _ _ h50) ?_; intro b hb; subst hb); (try cbv)) | fail)
  rw [hr]
end Go.Vi
namespace Go.Vi
open Go.Proofs
set_option maxRecDepth 100000
set_option linter.unusedVariables false
set_option linter.unusedSimpArgs false
theorem flatLe {α : Type} {c : Nat} : ∀ (ls : List (List α)), (∀ l ∈ ls, l.length ≤ c) → ls.flatten.length ≤ c * ls.length
  | [], _ => by simp
  | l :: r, h => by
    have h1 := flatLe r fun x hx => h x (List.mem_cons_of_mem _ hx)
    have h2 := h l List.mem_cons_self
    simp only [List.flatten_cons, List.length_append, List.length_cons, Nat.mul_succ]
    omega
theorem namesP_keys : ∀ (ls : List (List ByteArray)) (i : Nat), (namesP i ls).map Prod.fst = ls.flatten
  | [], i => rfl
  | l :: r, i => by
    rw [namesP, List.map_append, namesP_keys r, List.flatten_cons, List.map_map]
    congr 1
    exact List.map_id' _
theorem lexP_keys (nums : List Num) (names : List (List ByteArray)) (nots : List ByteArray) : (lexP nums names nots).map Prod.fst = nums.map (·.t) ++ (names.flatten ++ nots) := by
  rw [lexP, List.map_append, List.map_append, namesP_keys, List.map_map, List.map_map]
  congr 2
  exact List.map_id' _
def txF (l : List ByteArray) : List (List D) := l.map fun s => [.str s]
theorem txF_append (a b : List ByteArray) : txF (a ++ b) = txF a ++ txF b := List.map_append
theorem txF_len (a : List ByteArray) : (txF a).length = a.length := by simp [txF]
theorem take_snoc {α : Type} {l r : List α} {x : α} {k : Nat} (h : l.drop k = x :: r) : l.take (k + 1) = l.take k ++ [x] := by have := take_step id h; simpa using this
theorem all_bad {α : Type} {l : List α} {p : α → Bool} {x : α} (h : x ∈ l) (hp : p x = false) : l.all p = false := by
  rw [List.all_eq_false]
  exact ⟨x, h, by rw [hp]; simp⟩
theorem g34 {nums : List Num} {names : List (List ByteArray)} {nots : List ByteArray} {e1 e2 e3 : List (List D)} (hx : LexIn nums names nots e1 e2 e3) (s1 : nums.length ≤ 100) (s2 : names.length ≤ 100) (s3 : nots.length ≤ 100) (s4 : ∀ l ∈ names, l.length ≤ 100) :
    GG 34 [(true, [.row 2 e1, .row 1 e2, .row 1 e3])] (.one (false, [.int .i64 (readE nums names nots)])) := by
  obtain ⟨he1, he2, he3, hm1, hm5, hm2, hm3, hm4⟩ := hx
  have hl1 := map_len he1
  have hl2 := map_len he2
  have hl3 := map_len he3
  have h1bad : lexOk nums names nots = false → readE nums names nots = 1 := fun h => by rw [readE, h]; rfl
  refine start c34 rfl ?_
  intro r' hr G hG hGW lt le eq add sub mul quo rem conv strEq strLt strCat strLen strAt strCut bytes ofBytes len nth cut fits app rep setEl look upd ne strNe H
  obtain ⟨A, hA⟩ : ∃ A : Nat → List (List D), ∀ k, A k = (txF ((nums.take k).map (·.t))) := ⟨_, fun _ => rfl⟩
  cbv
  refine loopK ?_
  intro K hK
  obtain ⟨N, hN⟩ : ∃ N, N = nums.length := ⟨_, rfl⟩
  obtain ⟨P, hP⟩ : ∃ P : Nat → Prop, ∀ k, P k = (∀ x ∈ nums.take k, (textOk x.t && valOk x.v) = true) := ⟨_, fun _ => rfl⟩
  refine loopV N (fun k => [(1, .v false [.loc 0 0]), (3, .v false [.own 1]), (4, .v false [.d (.int .i64 (Int.ofNat k))])]) (fun k => [(0, .blk [.d (.row 2 e1), .d (.row 1 e2), .d (.row 1 e3)]), (1, .arr 9 1 (A k))]) P ?_ ?_ ?_
  · rw [hA 0]; exact ⟨rfl, rfl⟩
  · rw [hP]; intro x h; simp at h
  intro k hk hp
  rw [hN] at hk
  rw [hP] at hp
  rcases hd : nums.drop k with _ | ⟨⟨xt, xv⟩, r⟩
  · have h1 := H.rowNil he1 hd hk
    have hkn := drop_nil hd hk
    rw [hkn, List.take_length] at hp
    have hallN : nums.all (fun x => textOk x.t && valOk x.v) = true := List.all_eq_true.2 hp
    obtain ⟨B0, hB0⟩ : ∃ B, B = A k := ⟨_, rfl⟩
    rw [← hB0]
    (try cbv)
    repeat' (first | (rw [h1]; (try cbv)) | fail)
    rw [hK]
    cbv
    obtain ⟨A2, hA2⟩ : ∃ A : Nat → List (List D), ∀ k, A k = txF (nums.map (·.t) ++ (names.take k).flatten) := ⟨_, fun _ => rfl⟩
    have hB2 : B0 = A2 0 := by rw [hB0, hA, hA2, hkn, List.take_length]; simp
    rw [hB2]
    refine loopK ?_
    intro K2 hK2
    obtain ⟨N2, hN2⟩ : ∃ N, N = names.length := ⟨_, rfl⟩
    obtain ⟨P2, hP2⟩ : ∃ P : Nat → Prop, ∀ k, P k = (∀ x ∈ names.take k, namesOk x = true) := ⟨_, fun _ => rfl⟩
    refine loopV N2 (fun k => [(1, .v false [.loc 0 0]), (3, .v false [.own 1]), (5, .v false [.d (.int .i64 (Int.ofNat k))])]) (fun k => [(0, .blk [.d (.row 2 e1), .d (.row 1 e2), .d (.row 1 e3)]), (1, .arr 9 1 (A2 k))]) P2 ?_ ?_ ?_
    · exact ⟨rfl, rfl⟩
    · rw [hP2]; intro x h; simp at h
    intro i hi hp2
    rw [hN2] at hi
    rw [hP2] at hp2
    rcases hd2 : names.drop i with _ | ⟨x, r2⟩
    · have g1 := H.rowNil he2 hd2 hi
      have hin := drop_nil hd2 hi
      rw [hin, List.take_length] at hp2
      have hallM : names.all namesOk = true := List.all_eq_true.2 hp2
      have h55 := g55 nots e3 he3 hm3 40
      obtain ⟨B2, hB2⟩ : ∃ B, B = A2 i := ⟨_, rfl⟩
      rw [← hB2]
      have q1 : lt 40 (len e1) = decide (40 < nums.length) := by rw [H.len, hl1, H.gtK (c := 40) _ 40 rfl]
      have q2 : lt 40 (len e2) = decide (40 < names.length) := by rw [H.len, hl2, H.gtK (c := 40) _ 40 rfl]
      have hok : lexOk nums names nots = (texts nots 40 && (!decide (40 < nums.length) && !decide (40 < names.length))) := by
        rw [lexOk, hallN, hallM, texts]
        have e1 : decide ((nots.length : Int) ≤ 40) = decide (nots.length ≤ 40) := by rw [Bool.eq_iff_iff, decide_eq_true_eq, decide_eq_true_eq]; omega
        have e2 : decide (nums.length ≤ 40) = !decide (40 < nums.length) := by rw [Bool.eq_iff_iff]; simp
        have e3 : decide (names.length ≤ 40) = !decide (40 < names.length) := by rw [Bool.eq_iff_iff]; simp
        rw [e1, e2, e3]
        cases decide (40 < nums.length) <;> cases decide (40 < names.length) <;> cases decide (nots.length ≤ 40) <;> cases nots.all textOk <;> rfl
      cases c1 : texts nots 40
      · rw [c1] at h55 hok
        rw [h1bad (by rw [hok]; rfl)] at hr
        (try cbv)
        repeat' (first | (rw [g1]; (try cbv)) | (rw [hK2]; (try cbv)) | ((refine callB (hG _ _ _ h55) ?_; intro b hb; subst hb); (try cbv)) | fail)
        rw [hr]
      rw [c1] at h55 hok
      cases c2 : decide (40 < nums.length)
      case true =>
        rw [c2] at q1 hok
        rw [h1bad (by rw [hok]; rfl)] at hr
        (try cbv)
        repeat' (first | (rw [g1]; (try cbv)) | (rw [hK2]; (try cbv)) | ((refine callB (hG _ _ _ h55) ?_; intro b hb; subst hb); (try cbv)) | (rw [q1]; (try cbv)) | fail)
        rw [hr]
      rw [c2] at q1 hok
      cases c3 : decide (40 < names.length)
      case true =>
        rw [c3] at q2 hok
        rw [h1bad (by rw [hok]; rfl)] at hr
        (try cbv)
        repeat' (first | (rw [g1]; (try cbv)) | (rw [hK2]; (try cbv)) | ((refine callB (hG _ _ _ h55) ?_; intro b hb; subst hb); (try cbv)) | (rw [q1]; (try cbv)) | (rw [q2]; (try cbv)) | fail)
        rw [hr]
      rw [c3] at q2 hok
      obtain ⟨T, hT⟩ : ∃ T, T = (lexP nums names nots).map Prod.fst := ⟨_, rfl⟩
      have hr : r' = .one (false, [.int .i64 (if T.Nodup then 0 else 6)]) := by
        rw [hr, readE, hok, hT, keysOk]
        simp
      have hf : (names.flatten).length ≤ 100 * names.length := flatLe names s4
      have hTl : T.length ≤ 20000 := by
        rw [hT, lexP_keys]
        simp only [List.length_append, List.length_map]
        have : 100 * names.length ≤ 100 * 100 := Nat.mul_le_mul_left _ s2
        omega
      obtain ⟨TE, hTE⟩ : ∃ E, E = txF T := ⟨_, rfl⟩
      have hTE' : TE = T.map fun s => [D.str s] := hTE
      have happ : app B2 e3 = TE := by
        rw [H.app, hB2, hA2, hin, List.take_length, show e3 = txF nots from he3, ← txF_append, hTE, hT, lexP_keys, List.append_assoc]
      have hfit : fits 16 (app B2 e3) = true := by rw [happ]; exact H.fitsLe (by rw [hTE, txF_len]; omega) (by decide)
      have hlen3 : ∀ cs ∈ e3, cs.length = 1 := by rw [show e3 = txF nots from he3]; intro cs h; simp only [txF, List.mem_map] at h; obtain ⟨s, _, rfl⟩ := h; rfl
      (try cbv)
      repeat' (first | (rw [g1]; (try cbv)) | (rw [hK2]; (try cbv)) | ((refine callB (hG _ _ _ h55) ?_; intro b hb; subst hb); (try cbv)) | (rw [q1]; (try cbv)) | (rw [q2]; (try cbv)) | (refine ⟨hfit, ?_⟩; (try cbv)) | (refine ⟨lenOne rfl, ?_⟩; (try cbv)) | (refine ⟨hlen3, ?_⟩; (try cbv)) | (refine ⟨lenOne rfl, ?_⟩; (try cbv)) | fail)
      rw [happ]
      have hTm : T.length ≤ maxLen := Nat.le_trans hTl (by decide)
      refine loopK ?_
      intro K3 hK3
      obtain ⟨N3, hN3⟩ : ∃ N, N = T.length := ⟨_, rfl⟩
      obtain ⟨P3, hP3⟩ : ∃ P : Nat → Prop, ∀ k, P k = ((T.take k).Nodup) := ⟨_, fun _ => rfl⟩
      refine loopV N3 (fun k => [(3, .v false [.own 1]), (6, .v false [.d (.int .i64 (Int.ofNat k))])]) (fun k => [(0, .blk [.d (.row 2 e1), .d (.row 1 e2), .d (.row 1 e3)]), (1, .arr 9 1 TE)]) P3 ?_ ?_ ?_
      · exact ⟨rfl, rfl⟩
      · rw [hP3]; exact List.nodup_nil
      intro j hj hnd
      rw [hN3] at hj
      rw [hP3] at hnd
      rcases hd3 : T.drop j with _ | ⟨x, r3⟩
      · have f1 := H.rowNil hTE' hd3 hj
        rw [drop_nil hd3 hj, List.take_length] at hnd
        rw [if_pos hnd] at hr
        (try cbv)
        repeat' (first | (rw [f1]; (try cbv)) | (rw [hK3]; (try cbv)) | fail)
        rw [hr]
      · obtain ⟨f1, f2, f3, f4, f5⟩ := H.rowCons hTE' hTm hd3
        (try cbv)
        repeat' (first | (rw [f1]; (try cbv)) | fail)
        refine loopK ?_
        intro K4 hK4
        obtain ⟨N4, hN4⟩ : ∃ N, N = j := ⟨_, rfl⟩
        obtain ⟨P4, hP4⟩ : ∃ P : Nat → Prop, ∀ k, P k = (x ∉ T.take k) := ⟨_, fun _ => rfl⟩
        refine loopV N4 (fun k => [(3, .v false [.own 1]), (6, .v false [.d (.int .i64 (Int.ofNat j))]), (7, .v false [.d (.int .i64 (Int.ofNat k))])]) (fun k => [(0, .blk [.d (.row 2 e1), .d (.row 1 e2), .d (.row 1 e3)]), (1, .arr 9 1 TE)]) P4 ?_ ?_ ?_
        · exact ⟨rfl, rfl⟩
        · rw [hP4]; intro h; simp at h
        intro t ht hnx
        rw [hN4] at ht
        rw [hP4] at hnx
        by_cases htj : t < j
        · have k1 : lt (Int.ofNat t) (Int.ofNat j) = true := by rw [H.lt]; exact decide_eq_true (Int.ofNat_lt.2 htj)
          obtain ⟨y, hy⟩ : ∃ y, T[t]? = some y := ⟨_, List.getElem?_eq_getElem (by omega)⟩
          have hdt : T.drop t = y :: T.drop (t + 1) := by rw [List.drop_eq_getElem_cons (by omega)]; rw [List.getElem?_eq_getElem (by omega)] at hy; cases hy; rfl
          obtain ⟨_, k2, k3, _, _⟩ := H.rowCons hTE' hTm hdt
          cases hq : strEq x y
          · have hne : x ≠ y := of_decide_eq_false (by rw [← H.strEq]; exact hq)
            (try cbv)
            repeat' (first | (rw [k1]; (try cbv)) | (rw [f2]; (try cbv)) | (rw [k2]; (try cbv)) | (rw [hq]; (try cbv)) | fail)
            exact ⟨by rw [hN4]; exact htj, by rw [hP4, take_snoc hdt, List.mem_append]; rintro (h | h); exact hnx h; exact hne (by simpa using h), by rw [k3], trivial⟩
          · have hne : x = y := of_decide_eq_true (by rw [← H.strEq]; exact hq)
            have hdup : ¬ T.Nodup := by
              intro h
              have h1 : T[j]? = some x := (drop_cons hd3).2.1
              rw [← hne] at hy
              have := (List.getElem?_inj (by omega : t < T.length) h).1 (hy.trans h1.symm)
              omega
            rw [if_neg hdup] at hr
            (try cbv)
            repeat' (first | (rw [k1]; (try cbv)) | (rw [f2]; (try cbv)) | (rw [k2]; (try cbv)) | (rw [hq]; (try cbv)) | (rw [hK4]; (try cbv)) | (rw [hK3]; (try cbv)) | fail)
            rw [hr]
        · have htj' : t = j := by omega
          have k1 : lt (Int.ofNat t) (Int.ofNat j) = false := by rw [H.lt]; exact decide_eq_false (fun h => htj (Int.ofNat_lt.1 h))
          (try cbv)
          repeat' (first | (rw [k1]; (try cbv)) | (rw [hK4]; (try cbv)) | fail)
          exact ⟨by rw [hN3]; exact f5, by
            rw [hP3, take_snoc hd3, List.nodup_append]
            rw [htj'] at hnx
            refine ⟨hnd, by simp, ?_⟩
            rintro a ha b hb rfl
            simp at hb
            subst hb
            exact hnx ha, by rw [f3], trivial⟩
    · obtain ⟨g1, g2, g3, g4, g5⟩ := H.rowCons he2 hm2 hd2
      have hxm : x ∈ names := List.mem_of_getElem? (drop_cons hd2).2.1
      obtain ⟨ex, hex⟩ : ∃ ex : List (List D), txE x ex := ⟨_, rfl⟩
      have hxl := map_len hex
      rw [← show _ = _ from hex] at g2
      have h55 := g55 x ex hex (hm4 x hxm) 5
      have hz : eq (len ex) 0 = decide (x.length = 0) := by rw [H.len, hxl, H.eqK (c := 0) _ 0 rfl]
      have hnok : namesOk x = (!decide (x.length = 0) && texts x 5) := by
        rw [namesOk, texts, inR]
        have e1 : decide (1 ≤ (x.length : Int)) = !decide (x.length = 0) := by
          rw [Bool.eq_iff_iff]
          simp only [decide_eq_true_eq, Bool.not_eq_true', decide_eq_false_iff_not]
          omega
        rw [e1]
        cases decide (x.length = 0) <;> cases decide ((x.length : Int) ≤ 5) <;> cases x.all textOk <;> rfl
      have hbad : namesOk x = false → lexOk nums names nots = false := fun h => by
        rw [lexOk, all_bad hxm h]; simp
      cases c1 : decide (x.length = 0)
      case true =>
        rw [c1] at hz hnok
        rw [h1bad (hbad hnok)] at hr
        (try cbv)
        repeat' (first | (rw [g1]; (try cbv)) | (rw [g2]; (try cbv)) | (rw [hz]; (try cbv)) | (rw [hK2]; (try cbv)) | (rw [hK]; (try cbv)) | fail)
        rw [hr]
      rw [c1] at hz hnok
      cases c2 : texts x 5
      · rw [c2] at h55 hnok
        rw [h1bad (hbad hnok)] at hr
        (try cbv)
        repeat' (first | (rw [g1]; (try cbv)) | (rw [g2]; (try cbv)) | (rw [hz]; (try cbv)) | ((refine callB (hG _ _ _ h55) ?_; intro b hb; subst hb); (try cbv)) | (rw [hK2]; (try cbv)) | (rw [hK]; (try cbv)) | fail)
        rw [hr]
      · rw [c2] at h55 hnok
        have hf : ((names.take i).flatten).length ≤ 100 * (names.take i).length := flatLe _ fun l hl => s4 l (List.mem_of_mem_take hl)
        have hxs := s4 x hxm
        have hfit : fits 16 (app (A2 i) ex) = true := H.fitsLe (by
          rw [H.app, hA2, List.length_append, txF_len, hxl]
          simp only [List.length_append, List.length_map, List.length_take] at hf ⊢
          omega) (by decide)
        have hlen3 : ∀ cs ∈ ex, cs.length = 1 := by rw [show ex = txF x from hex]; intro cs h; simp only [txF, List.mem_map] at h; obtain ⟨s, _, rfl⟩ := h; rfl
        (try cbv)
        repeat' (first | (rw [g1]; (try cbv)) | (rw [g2]; (try cbv)) | (rw [hz]; (try cbv)) | ((refine callB (hG _ _ _ h55) ?_; intro b hb; subst hb); (try cbv)) | (refine ⟨hfit, ?_⟩; (try cbv)) | (refine ⟨lenOne rfl, ?_⟩; (try cbv)) | (refine ⟨hlen3, ?_⟩; (try cbv)) | (refine ⟨lenOne rfl, ?_⟩; (try cbv)) | fail)
        exact ⟨by rw [hN2]; exact g5, by
          rw [hP2, take_snoc hd2]
          intro y hy
          rw [List.mem_append] at hy
          rcases hy with hy | hy
          · exact hp2 y hy
          · simp at hy; subst hy; exact hnok, by rw [g3], by rw [H.app, hA2, hA2, take_snoc hd2, show ex = txF x from hex, ← txF_append]; simp⟩
  · obtain ⟨h1, h2, h3, h4, h5⟩ := H.rowCons he1 hm1 hd
    have hxm : (⟨xt, xv⟩ : Num) ∈ nums := List.mem_of_getElem? (drop_cons hd).2.1
    have h60 := g60 xt (hm5 _ hxm)
    have h28 := g28 xv 0 999999999
    have hv : (decide (0 ≤ xv) && decide (xv ≤ 999999999)) = valOk xv := rfl
    rw [hv] at h28
    have hbad : (textOk xt && valOk xv) = false → lexOk nums names nots = false := fun h => by
      rw [lexOk, all_bad hxm h]; simp
    have h6 : ∀ x, fits 16 (app (A k) [x]) = true := fun x => H.fitsLe (by rw [H.app, hA]; simp [txF]; omega) (by decide)
    cases c1 : textOk xt
    · rw [c1] at h60
      rw [h1bad (hbad (by rw [c1]; rfl))] at hr
      (try cbv)
      repeat' (first | (rw [h1]; (try cbv)) | (rw [h2]; (try cbv)) | ((refine callB (hG _ _ _ h60) ?_; intro b hb; subst hb); (try cbv)) | (rw [hK]; (try cbv)) | fail)
      rw [hr]
    cases c2 : valOk xv
    · rw [c1] at h60
      rw [c2] at h28
      rw [h1bad (hbad (by rw [c1, c2]; rfl))] at hr
      (try cbv)
      repeat' (first | (rw [h1]; (try cbv)) | (rw [h2]; (try cbv)) | ((refine callB (hG _ _ _ h60) ?_; intro b hb; subst hb); (try cbv)) | ((refine callB (hG _ _ _ h28) ?_; intro b hb; subst hb); (try cbv)) | (rw [hK]; (try cbv)) | fail)
      rw [hr]
    · rw [c1] at h60
      rw [c2] at h28
      (try cbv)
      repeat' (first | (rw [h1]; (try cbv)) | (rw [h2]; (try cbv)) | ((refine callB (hG _ _ _ h60) ?_; intro b hb; subst hb); (try cbv)) | ((refine callB (hG _ _ _ h28) ?_; intro b hb; subst hb); (try cbv)) | (refine ⟨(h6 _), ?_⟩; (try cbv)) | (refine ⟨lenOne rfl, ?_⟩; (try cbv)) | fail)
      exact ⟨by rw [hN]; exact h5, by
        rw [hP, take_snoc hd]
        intro y hy
        rw [List.mem_append] at hy
        rcases hy with hy | hy
        · exact hp y hy
        · simp at hy; subst hy; simp [c1, c2], by rw [h3], by rw [H.app, hA, hA, take_snoc hd, List.map_append, txF_append]; rfl⟩
end Go.Vi
namespace Go.Vi
open Go.Proofs
set_option maxRecDepth 100000
theorem list_enc {α : Type} {enc : α → List D} {Q : α → Prop} : ∀ {es : List (List D)}, (∀ c ∈ es, ∃ x, c = enc x ∧ Q x) → ∃ l : List α, es = l.map enc ∧ ∀ x ∈ l, Q x
  | [], _ => ⟨[], rfl, fun x h => by simp at h⟩
  | c :: r, h => by
    obtain ⟨x, hx, hq⟩ := h c List.mem_cons_self
    obtain ⟨l, hl, hql⟩ := list_enc fun c hc => h c (List.mem_cons_of_mem _ hc)
    refine ⟨x :: l, by rw [hx, hl]; rfl, fun y hy => ?_⟩
    rcases List.mem_cons.1 hy with rfl | hy
    · exact hq
    · exact hql y hy
theorem cells9 : Tryz.prog.cellsOf 9 = 1 := by kernel_rfl
theorem cells24 : Tryz.prog.cellsOf 24 = 1 := by kernel_rfl
theorem cells112 : Tryz.prog.cellsOf 112 = 2 := by kernel_rfl
theorem hasStr {n : Nat} {c : List D} (h : HasT Tryz.prog (n + 1) 9 c) : ∃ s : ByteArray, c = [.str s] ∧ s.size ≤ maxLen := by
  simp only [HasT, Tryz.underlying9] at h
  exact h
theorem hasInt {n : Nat} {c : List D} (h : HasT Tryz.prog (n + 1) 3 c) : ∃ m, c = [.int .i64 m] ∧ (Lit.int .i64 m).wf = true := by
  simp only [HasT, Tryz.underlying3] at h
  exact h
theorem hasTexts {n : Nat} {ds : List D} (h : HasT Tryz.prog (n + 2) 24 ds) : ∃ l es, ds = [.row 1 es] ∧ txE l es ∧ Short l := by
  rw [HasT, Tryz.underlying24] at h
  obtain ⟨es, rfl, h1, h2⟩ := h
  rw [cells9]
  obtain ⟨l, hl, hq⟩ := list_enc (enc := fun s : ByteArray => [D.str s]) (Q := fun s => s.size ≤ maxLen) fun c hc => hasStr (h2 c hc).2
  refine ⟨l, es, rfl, hl, ?_, hq⟩
  rw [hl] at h1
  simpa using h1
theorem hasNames {n : Nat} {ds : List D} (h : HasT Tryz.prog (n + 3) 23 ds) : ∃ l es, ds = [.row 1 es] ∧ nsE l es ∧ l.length ≤ maxLen ∧ ∀ x ∈ l, Short x := by
  rw [HasT, Tryz.underlying23] at h
  obtain ⟨es, rfl, h1, h2⟩ := h
  rw [cells24]
  obtain ⟨l, hl, hq⟩ := list_enc (enc := fun x : List ByteArray => [D.row 1 (x.map fun s => [.str s])]) (Q := Short) fun c hc => by
    obtain ⟨x, e, h3, h4, h5⟩ := hasTexts (h2 c hc).2
    exact ⟨x, by rw [h3, show e = x.map fun s => [D.str s] from h4], h5⟩
  refine ⟨l, es, rfl, hl, ?_, hq⟩
  rw [hl] at h1
  simpa using h1
theorem all2_two {α β : Type} {R : α → β → Prop} {a b : α} {l : List β} (h : All2 R [a, b] l) : ∃ x y, l = [x, y] ∧ R a x ∧ R b y := by
  match l, h with
  | [x, y], h => exact ⟨x, y, rfl, h.1, h.2.1⟩
theorem all2_three {α β : Type} {R : α → β → Prop} {a b c : α} {l : List β} (h : All2 R [a, b, c] l) : ∃ x y z, l = [x, y, z] ∧ R a x ∧ R b y ∧ R c z := by
  match l, h with
  | [x, y, z], h => exact ⟨x, y, z, rfl, h.1, h.2.1, h.2.2.1⟩
theorem hasNum {n : Nat} {c : List D} (h : HasT Tryz.prog (n + 2) 112 c) : ∃ x : Num, c = [.str x.t, .int .i64 x.v] ∧ x.t.size ≤ maxLen := by
  rw [HasT, Tryz.underlying112] at h
  obtain ⟨parts, rfl, h1⟩ := h
  obtain ⟨p, q, rfl, h2, h3⟩ := all2_two h1
  obtain ⟨s, rfl, hs⟩ := hasStr h2
  obtain ⟨m, rfl, _⟩ := hasInt h3
  exact ⟨⟨s, m⟩, rfl, hs⟩
theorem hasNums {n : Nat} {ds : List D} (h : HasT Tryz.prog (n + 3) 22 ds) : ∃ l es, ds = [.row 2 es] ∧ nuE l es ∧ l.length ≤ maxLen ∧ ∀ x ∈ l, x.t.size ≤ maxLen := by
  rw [HasT, Tryz.underlying22] at h
  obtain ⟨es, rfl, h1, h2⟩ := h
  rw [cells112]
  obtain ⟨l, hl, hq⟩ := list_enc (enc := fun x : Num => [D.str x.t, .int .i64 x.v]) (Q := fun x => x.t.size ≤ maxLen) fun c hc => hasNum (h2 c hc).2
  refine ⟨l, es, rfl, hl, ?_, hq⟩
  rw [hl] at h1
  simpa using h1
theorem hasLex {n : Nat} {ds : List D} (h : HasT Tryz.prog (n + 4) 26 ds) : ∃ nums names nots e1 e2 e3, ds = [.row 2 e1, .row 1 e2, .row 1 e3] ∧ LexIn nums names nots e1 e2 e3 := by
  rw [HasT, Tryz.underlying26] at h
  obtain ⟨parts, rfl, h1⟩ := h
  obtain ⟨p, q, r, rfl, h2, h3, h4⟩ := all2_three h1
  obtain ⟨nums, e1, rfl, a1, a2, a3⟩ := hasNums h2
  obtain ⟨names, e2, rfl, b1, b2, b3⟩ := hasNames h3
  obtain ⟨nots, e3, rfl, c1, c2⟩ := hasTexts h4
  exact ⟨nums, names, nots, e1, e2, e3, rfl, a1, b1, c1, a2, a3, b2, c2, b3⟩
theorem lexArg : argT Tryz.prog 26 = true := by kernel_rfl
theorem textsArg : argT Tryz.prog 24 = false := by kernel_rfl
end Go.Vi
