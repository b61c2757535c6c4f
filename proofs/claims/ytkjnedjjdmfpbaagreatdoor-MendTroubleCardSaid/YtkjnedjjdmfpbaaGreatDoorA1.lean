/-
  The framework: what is run, and what it stands for.
-/
import GoSem.Core.Code
import Derived.Control
import GoSem.Op.String
import Derived.Below
import Derived.Calls
import Derived.Lib.LaidTab
import Derived.Lib.ItoaNum
import Derived.Deep.Draws
import Derived.Laws.Entries
import Derived.Laws.Cells
import Derived.Laws.Rows
set_option linter.unusedVariables false
set_option linter.unusedSimpArgs false
set_option linter.unusedSectionVars false
namespace Go.Vi

/-- What one cell holds, by value. A row: a slice that is only read (elements of sz cells each). ro: a pointer to the i-th of some cells that are only read. -/
inductive D where
  | int (k : IntKind) (n : Int)
  | bool (b : Bool)
  | str (s : ByteArray)
  | row (sz : Nat) (es : List (List D))
  | ro (cs : List D) (i : Nat)
  | ptr0
  | fn (f : Nat) (first : List (Bool × List D)) (cap : List D)
  | fn0
  | err0
  | errX
  | map0
  | rmap (sz : Nat) (es : List (D × List D))
  | yld (l id : Nat)
deriving Inhabited

inductive Cap where
  | d (x : D)
  | loc (id off : Nat)

/-- What one cell or slot holds: data; a slice that owns the local array id; a pointer into a local object; a pointer to a cell of an element of a local array; a closure; a local map. -/
inductive C where
  | d (x : D)
  | own (id : Nat)
  | loc (id off : Nat)
  | el (id : Nat) (i : Int) (off : Nat)
  | fn (f : Nat) (first : List (Bool × List Cap)) (cap : List Cap)
  | lmap (id : Nat)
  | dead

/-- A value: a scalar (false, one cell) or a struct or array (true, its cells); several results. -/
inductive V where
  | v (agg : Bool) (cs : List C)
  | tup (vs : List (Bool × List C))

abbrev DV := Bool × List D

/-- A local object: a variable; an array that the call owns (elements of type e, sz cells each); a map; a caller's slots while a callee runs; the record of a range over a function. -/
inductive Obj where
  | blk (cs : List C)
  | arr (e sz : Nat) (es : List (List D))
  | map (sz : Nat) (es : List (D × List D))
  | saved (a : Act) (e : List (Nat × V))
  | lp (l : Nat) (ρ : Loop) (st : LoopState) (p : Option Go.Code)

abbrev Env := List (Nat × V)
abbrev Heap := List (Nat × Obj)
/-- What is read of both: by slot, by number. -/
abbrev EnvF := Nat → Option V
abbrev HeapF := Nat → Option Obj

/-- The operations on numbers, strings and lists: given as a variable while code is run, so that they stay as they stand. -/
structure Prim where
  lt : Int → Int → Bool
  le : Int → Int → Bool
  eq : Int → Int → Bool
  add : IntKind → Int → Int → Int
  sub : IntKind → Int → Int → Int
  mul : IntKind → Int → Int → Int
  quo : IntKind → Int → Int → Option Int
  rem : IntKind → Int → Int → Option Int
  conv : IntKind → Int → Int
  strEq : ByteArray → ByteArray → Bool
  strLt : ByteArray → ByteArray → Bool
  strCat : ByteArray → ByteArray → Option ByteArray
  strLen : ByteArray → Int
  strAt : ByteArray → Int → Option Int
  strCut : ByteArray → Option Int → Option Int → Option ByteArray
  bytes : ByteArray → List (List D)
  ofBytes : List (List D) → Option ByteArray
  len : List (List D) → Int
  nth : List (List D) → Int → Option (List D)
  cut : List (List D) → Option Int → Option Int → Option (List (List D))
  fits : Nat → List (List D) → Bool
  app : List (List D) → List (List D) → List (List D)
  rep : Nat → Int → List D → Option (List (List D))
  setEl : List (List D) → Int → Nat → D → Option (List (List D))
  look : List (D × List D) → D → Option (List D)
  upd : List (D × List D) → D → List D → List (D × List D)
  ne : Int → Int → Bool
  strNe : ByteArray → ByteArray → Bool

inductive Arg where
  | t (n : Nat)
  | con (d : D)
  | nil

inductive Zero where
  | d (x : D)
  | nil (e sz : Nat)

inductive Op where
  | mv (x : Arg)
  | newNil (e sz : Nat)
  | pick (c a b : Arg)
  | arith (op : BinOp) (k : IntKind) (x y : Arg)
  | cmp (op : BinOp) (x y : Arg)
  | strOp (op : BinOp) (x y : Arg)
  | boolEq (neq : Bool) (x y : Arg)
  | aggEq (neq : Bool) (ks : List Nat) (x y : Arg)
  | errEq (neq : Bool) (x : Arg)
  | not (x : Arg)
  | neg (k : IntKind) (x : Arg)
  | alloc (zs : List Zero)
  | box (x : Arg)
  | build (zs : List Zero) (parts : List (Nat × Nat × Arg))
  | buildSlice (e sz : Nat) (parts : List Arg)
  | buildArr (e sz : Nat) (parts : List Arg)
  | min (xs : List Arg)
  | max (xs : List Arg)
  | load (agg : Bool) (n : Nat) (x : Arg)
  | store (agg : Bool) (n : Nat) (x y : Arg)
  | fieldAddr (off : Nat) (x : Arg)
  | field (agg : Bool) (off n : Nat) (x : Arg)
  | indexAddr (sz : Nat) (x i : Arg)
  | indexCells (len sz : Nat) (x i : Arg)
  | index (len sz : Nat) (agg : Bool) (x i : Arg)
  | indexStr (x i : Arg)
  | extract (x : Arg) (i : Nat)
  | lenStr (x : Arg)
  | len (x : Arg)
  | append (e sz bytes : Nat) (x y : Arg)
  | cutStr (x : Arg) (lo hi : Option Arg)
  | cut (sz : Nat) (x : Arg) (lo hi : Option Arg)
  | conv (k : IntKind) (x : Arg)
  | strBytes (x : Arg)
  | bytesStr (x : Arg)
  | mkFn (f : Nat) (first : List Arg) (cap : List Arg)
  | call (mode : Nat) (f : Nat) (args : List Arg)
  | callV (mode : Nat) (x : Arg) (args : List Arg)
  | callH (f : Nat) (args : List Arg)
  | callVH (x : Arg) (args : List Arg)
  | nilCheck (x : Arg)
  | makeSlice (e sz bytes : Nat) (zs : List D) (n : Arg)
  | lookup (sz : Nat) (ok : Bool) (zs : List D) (x k : Arg)
  | makeMap (sz : Nat)
  | mapSet (sz : Nat) (x k v : Arg)

structure Oper where
  dst : Option Nat
  op : Op
  guard : Option (Nat × Bool) := none

inductive Res where
  | tmp (t : Nat)
  | cell (t : Nat) (agg : Bool) (n : Nat)

inductive Code where
  | skip
  | region (ops : List Oper) (live : List Nat)
  | seq (a b : Code)
  | cond (c : Arg) (a b : Code)
  | block (id : Nat) (a : Code)
  | loop (live : List Nat) (a : Code)
  | exit (id : Nat)
  | ret
  | inl (pre : List Oper) (dst : Option Nat) (x : Option Arg) (f k : Nat) (args : List Arg) (body : Code) (rs : List Res) (post : List Oper) (live : List Nat)
  | scope (a : Code)
  | frz (t : Nat) (a : Code)
  | iter (x : Arg) (f k : Nat) (body : Code) (live : List Nat)
  | yld (pre : List Oper) (dst : Option Nat) (y : Arg) (args : List Arg) (params : List Nat) (assign body : Code) (post : List Oper) (live : List Nat)

inductive Out where
  | normal
  | exit (id : Nat)
  | ret

/-! ### the environment -/
def Env.get : Env → Nat → Option V
  | [], _ => none
  | (t, v) :: r, s => match Nat.beq t s with
    | true => some v
    | false => Env.get r s
def Env.del : Env → Nat → Env
  | [], _ => []
  | (t, v) :: r, s => match Nat.beq t s with
    | true => Env.del r s
    | false => (t, v) :: Env.del r s
/-- In rising order of the slots. -/
def Env.put : Env → Nat → V → Env
  | [], s, u => [(s, u)]
  | (t, v) :: r, s, u => match Nat.beq t s with
    | true => (s, u) :: r
    | false => match Nat.blt s t with
      | true => (s, u) :: (t, v) :: r
      | false => (t, v) :: Env.put r s u
def has : List Nat → Nat → Bool
  | [], _ => false
  | t :: r, s => match Nat.beq t s with
    | true => true
    | false => has r s
def Env.keep : Env → List Nat → Env
  | [], _ => []
  | (t, v) :: r, l => match has l t with
    | true => (t, v) :: Env.keep r l
    | false => Env.keep r l
def Env.puto (e : Env) : Option Nat → V → Env
  | some t, v => e.put t v
  | none, _ => e
def Env.delo (e : Env) : Option Nat → Env
  | some t => e.del t
  | none => e

def Heap.get : Heap → Nat → Option Obj
  | [], _ => none
  | (i, o) :: r, j => match Nat.beq i j with
    | true => some o
    | false => Heap.get r j
def Heap.set : Heap → Nat → Obj → Heap
  | [], _, _ => []
  | (i, o) :: r, j, u => match Nat.beq i j with
    | true => (i, u) :: r
    | false => (i, o) :: Heap.set r j u
def Heap.del : Heap → Nat → Heap
  | [], _ => []
  | (i, o) :: r, j => match Nat.beq i j with
    | true => Heap.del r j
    | false => (i, o) :: Heap.del r j
/-- New objects, numbered from n on. -/
def Heap.new : Heap → Nat → List Obj → Heap
  | h, _, [] => h
  | h, n, o :: r => Heap.new (h ++ [(n, o)]) (n + 1) r

/-! ### references -/
def C.isOwn (id : Nat) : C → Bool
  | .own i => Nat.beq i id
  | .el i _ _ => Nat.beq i id
  | _ => false
def anyC (p : C → Bool) : List C → Bool
  | [] => false
  | c :: r => match p c with
    | true => true
    | false => anyC p r
def anyP (p : C → Bool) : List (Bool × List C) → Bool
  | [] => false
  | (_, cs) :: r => match anyC p cs with
    | true => true
    | false => anyP p r
def V.any (p : C → Bool) : V → Bool
  | .v _ cs => anyC p cs
  | .tup vs => anyP p vs
def Env.drop (p : C → Bool) : Env → Env
  | [] => []
  | (t, v) :: r => match V.any p v with
    | true => Env.del (Env.drop p r) t
    | false => (t, v) :: Env.drop p r
def Env.clean (p : C → Bool) : Env → Bool
  | [] => true
  | (_, v) :: r => match V.any p v with
    | true => false
    | false => Env.clean p r


/-! ### what is read and made -/
def Cap.c : Cap → C
  | .d x => .d x
  | .loc i o => .loc i o
def ofCapL : List Cap → List C
  | [] => []
  | c :: r => c.c :: ofCapL r
def ofFirst : List (Bool × List Cap) → List V
  | [] => []
  | (b, cs) :: r => .v b (ofCapL cs) :: ofFirst r
def ofCaps : List Cap → List V
  | [] => []
  | c :: r => .v false [c.c] :: ofCaps r
def C.data : C → Option D
  | .d x => some x
  | _ => none
def dataL : List C → Option (List D)
  | [] => some []
  | c :: r => match C.data c with
    | some x => match dataL r with
      | some xs => some (x :: xs)
      | none => none
    | none => none
def capC : C → Option Cap
  | .d x => some (.d x)
  | .loc i o => some (.loc i o)
  | _ => none
def capL : List C → Option (List Cap)
  | [] => some []
  | c :: r => match capC c with
    | some x => match capL r with
      | some xs => some (x :: xs)
      | none => none
    | none => none
def ofData : List D → List C
  | [] => []
  | x :: r => .d x :: ofData r
def DV.v : DV → V
  | (b, ds) => .v b (ofData ds)

def freezeL (f : C → Option (D × List Nat)) : List C → Option (List D × List Nat)
  | [] => some ([], [])
  | c :: r => match f c with
    | some (d, i) => match freezeL f r with
      | some (ds, is) => some (d :: ds, i ++ is)
      | none => none
    | none => none
def freezeCap (f : C → Option (D × List Nat)) : Cap → Option (D × List Nat)
  | .d x => some (x, [])
  | .loc i o => f (.loc i o)
def freezeCaps (f : C → Option (D × List Nat)) : List Cap → Option (List D × List Nat)
  | [] => some ([], [])
  | c :: r => match freezeCap f c with
    | some (d, i) => match freezeCaps f r with
      | some (ds, is) => some (d :: ds, i ++ is)
      | none => none
    | none => none
def freezeFirst (f : C → Option (D × List Nat)) : List (Bool × List Cap) → Option (List (Bool × List D) × List Nat)
  | [] => some ([], [])
  | (b, cs) :: r => match freezeCaps f cs with
    | some (d, i) => match freezeFirst f r with
      | some (ds, is) => some ((b, d) :: ds, i ++ is)
      | none => none
    | none => none
/-- A cell by what it reads as now, and the ids that are met. -/
def freezeC : Nat → HeapF → C → Option (D × List Nat)
  | 0, _, .d x => some (x, [])
  | 0, _, _ => none
  | _ + 1, _, .d x => some (x, [])
  | _ + 1, h, .own id => match h id with
    | some (.arr _ sz es) => some (.row sz es, [id])
    | _ => none
  | _ + 1, h, .lmap id => match h id with
    | some (.map sz es) => some (.rmap sz es, [id])
    | _ => none
  | k + 1, h, .loc id off => match h id with
    | some (.blk cs) => match freezeL (freezeC k h) cs with
      | some (ds, is) => some (.ro ds off, id :: is)
      | none => none
    | _ => none
  | k + 1, h, .fn f first cap => match freezeFirst (freezeC k h) first, freezeCaps (freezeC k h) cap with
    | some (a, i), some (b, j) => some (.fn f a b, i ++ j)
    | _, _ => none
  | _ + 1, _, .el _ _ _ => none
  | _ + 1, _, .dead => none
def depth : Nat := 6
def freezeV (h : HeapF) : V → Option (DV × List Nat)
  | .v b cs => match freezeL (freezeC depth h) cs with
    | some (ds, is) => some ((b, ds), is)
    | none => none
  | .tup _ => none
/-- Several results, or one, by what they read as now. -/
def freezeP (h : HeapF) : List (Bool × List C) → Option (List DV)
  | [] => some []
  | (b, cs) :: r => match freezeL (freezeC depth h) cs with
    | some (ds, _) => match freezeP h r with
      | some l => some ((b, ds) :: l)
      | none => none
    | none => none

/-- What a call gives back: one value, or several. -/
inductive R where
  | one (x : DV)
  | many (xs : List DV)
def ofDVs : List DV → List (Bool × List C)
  | [] => []
  | (b, ds) :: r => (b, ofData ds) :: ofDVs r
def R.v : R → V
  | .one x => x.v
  | .many xs => .tup (ofDVs xs)
def D.scalar : D → Bool
  | .int _ _ => true
  | .bool _ => true
  | .str _ => true
  | .err0 => true
  | .errX => true
  | _ => false
def scalarL : List D → Bool
  | [] => true
  | x :: r => match x.scalar with
    | true => scalarL r
    | false => false
def scalarP : List DV → Bool
  | [] => true
  | (_, ds) :: r => match scalarL ds with
    | true => scalarP r
    | false => false
def R.scalar : R → Bool
  | .one (_, ds) => scalarL ds
  | .many xs => scalarP xs

/-! ### operands -/
def Arg.val (e : EnvF) : Arg → Option V
  | .t n => e n
  | .con x => some (.v false [.d x])
  | .nil => some (.v false [.d (.row 0 [])])
def Arg.cell (e : EnvF) (x : Arg) : Option C := match x.val e with
  | some (.v false [c]) => some c
  | _ => none
def Arg.dat (e : EnvF) (x : Arg) : Option D := match x.cell e with
  | some (.d d) => some d
  | _ => none
def Arg.int (e : EnvF) (x : Arg) : Option (IntKind × Int) := match x.dat e with
  | some (.int k n) => some (k, n)
  | _ => none
def ikN : IntKind → Nat
  | .i8 => 0
  | .i16 => 1
  | .i32 => 2
  | .i64 => 3
  | .u8 => 4
  | .u16 => 5
  | .u32 => 6
  | .u64 => 7
/-- A number of kind k. -/
def Arg.intK (e : EnvF) (k : IntKind) (x : Arg) : Option Int := match x.int e with
  | some (q, n) => match Nat.beq (ikN q) (ikN k) with
    | true => some n
    | false => none
  | none => none
def Arg.bool (e : EnvF) (x : Arg) : Option Bool := match x.dat e with
  | some (.bool b) => some b
  | _ => none
def Arg.str (e : EnvF) (x : Arg) : Option ByteArray := match x.dat e with
  | some (.str s) => some s
  | _ => none
def Arg.oint (e : EnvF) : Option Arg → Option (Option Int)
  | none => some none
  | some x => match x.int e with
    | some (_, n) => some (some n)
    | none => none
def vals (e : EnvF) : List Arg → Option (List V)
  | [] => some []
  | x :: r => match x.val e with
    | some v => match vals e r with
      | some vs => some (v :: vs)
      | none => none
    | none => none
/-- Arguments that are data. -/
def V.dv : V → Option DV
  | .v b cs => match dataL cs with
    | some ds => some (b, ds)
    | none => none
  | .tup _ => none
def dvs (e : EnvF) : List Arg → Option (List DV)
  | [] => some []
  | x :: r => match x.val e with
    | some v => match v.dv with
      | some d => match dvs e r with
        | some ds => some (d :: ds)
        | none => none
      | none => none
    | none => none
/-- Arguments by what they read as now. -/
def frozen (e : EnvF) (h : HeapF) : List Arg → Option (List DV × List Nat)
  | [] => some ([], [])
  | x :: r => match x.val e with
    | some v => match freezeV h v with
      | some (d, i) => match frozen e h r with
        | some (ds, is) => some (d :: ds, i ++ is)
        | none => none
      | none => none
    | none => none
/-- A slice's elements, of a row or of an array. -/
def elems (h : HeapF) : C → Option (List (List D))
  | .d (.row _ es) => some es
  | .own id => match h id with
    | some (.arr _ _ es) => some es
    | _ => none
  | _ => none

/-! ### operations that change no local object: the value, and what is made anew -/
def zeroC (n : Nat) : List Zero → List C
  | [] => []
  | .d x :: r => .d x :: zeroC n r
  | .nil _ _ :: r => .own n :: zeroC (n + 1) r
def zeroO : List Zero → List Obj
  | [] => []
  | .d _ :: r => zeroO r
  | .nil e sz :: r => .arr e sz [] :: zeroO r
def setL : List C → Nat → List C → Option (List C)
  | cs, _, [] => some cs
  | [], _, _ :: _ => none
  | _ :: cs, 0, x :: xs => match setL cs 0 xs with
    | some r => some (x :: r)
    | none => none
  | c :: cs, k + 1, xs => match setL cs k xs with
    | some r => some (c :: r)
    | none => none
def takeL : List C → Nat → Option (List C)
  | _, 0 => some []
  | [], _ + 1 => none
  | c :: cs, n + 1 => match takeL cs n with
    | some r => some (c :: r)
    | none => none
def dropL : List C → Nat → List C
  | cs, 0 => cs
  | [], _ => []
  | _ :: cs, k + 1 => dropL cs k
def cutL (cs : List C) (off n : Nat) : Option (List C) := takeL (dropL cs off) n
def fillP (e : EnvF) : List C → List (Nat × Nat × Arg) → Option (List C)
  | cs, [] => some cs
  | cs, (off, n, x) :: r => match x.val e with
    | some (.v _ xs) => match Nat.beq xs.length n with
      | true => match setL cs off xs with
        | some cs' => fillP e cs' r
        | none => none
      | false => none
    | _ => none
/-- Elements that are data, of sz cells each. -/
def rowOf (e : EnvF) (h : HeapF) (sz : Nat) : List Arg → Option (List (List D) × List Nat)
  | [] => some ([], [])
  | x :: r => match x.val e with
    | some v => match freezeV h v with
      | some ((_, ds), i) => match Nat.beq ds.length sz with
        | true => match rowOf e h sz r with
          | some (es, is) => some (ds :: es, i ++ is)
          | none => none
        | false => none
      | none => none
    | none => none
def capArgs (e : EnvF) : List Arg → Option (List Cap)
  | [] => some []
  | x :: r => match x.cell e with
    | some c => match capC c with
      | some y => match capArgs e r with
        | some ys => some (y :: ys)
        | none => none
      | none => none
    | none => none
def firstArgs (e : EnvF) : List Arg → Option (List (Bool × List Cap))
  | [] => some []
  | x :: r => match x.val e with
    | some (.v b cs) => match capL cs with
      | some y => match firstArgs e r with
        | some ys => some ((b, y) :: ys)
        | none => none
      | none => none
    | _ => none
def nullV : V := .tup []
def Prim.cmp (B : Prim) : BinOp → Int → Int → Option Bool
  | .lss, a, b => some (B.lt a b)
  | .leq, a, b => some (B.le a b)
  | .gtr, a, b => some (B.lt b a)
  | .geq, a, b => some (B.le b a)
  | .eql, a, b => some (B.eq a b)
  | .neq, a, b => some (B.ne a b)
  | _, _, _ => none
def Prim.strOp (B : Prim) : BinOp → ByteArray → ByteArray → Option D
  | .add, a, b => match B.strCat a b with
    | some r => some (.str r)
    | none => none
  | .eql, a, b => some (.bool (B.strEq a b))
  | .neq, a, b => some (.bool (B.strNe a b))
  | .lss, a, b => some (.bool (B.strLt a b))
  | .gtr, a, b => some (.bool (!(B.strLt a b || B.strEq a b)))
  | .leq, a, b => some (.bool (B.strLt a b || B.strEq a b))
  | .geq, a, b => some (.bool (!B.strLt a b))
  | _, _, _ => none
def Prim.arith (B : Prim) (k : IntKind) : BinOp → Int → Int → Option Int
  | .add, a, b => some (B.add k a b)
  | .sub, a, b => some (B.sub k a b)
  | .mul, a, b => some (B.mul k a b)
  | .quo, a, b => B.quo k a b
  | .rem, a, b => B.rem k a b
  | _, _, _ => none
/-- Two cells of a kind (0: numbers, 1: strings, 2: bools). -/
def Prim.eqC (B : Prim) : Nat → C → C → Option Bool
  | 0, .d (.int k a), .d (.int q b) => match Nat.beq (ikN k) (ikN q) with
    | true => some (B.eq a b)
    | false => none
  | 1, .d (.str a), .d (.str b) => some (B.strEq a b)
  | 2, .d (.bool a), .d (.bool b) => some (a == b)
  | _, _, _ => none
def Prim.eqL (B : Prim) : List Nat → List C → List C → Option Bool
  | [], [], [] => some true
  | k :: ks, x :: xs, y :: ys => match B.eqC k x y with
    | some b => match B.eqL ks xs ys with
      | some c => some (match b with
        | true => c
        | false => false)
      | none => none
    | none => none
  | _, _, _ => none
def lift1 (d : D) : Option (V × List Obj) := some (.v false [.d d], [])
def liftB : Option Bool → Option (V × List Obj)
  | some b => some (.v false [.d (.bool b)], [])
  | none => none
def liftI (k : IntKind) : Option Int → Option (V × List Obj)
  | some n => some (.v false [.d (.int k n)], [])
  | none => none
def liftD : Option D → Option (V × List Obj)
  | some d => some (.v false [.d d], [])
  | none => none
def takeD : List D → Nat → Option (List D)
  | _, 0 => some []
  | [], _ + 1 => none
  | c :: cs, n + 1 => match takeD cs n with
    | some r => some (c :: r)
    | none => none
def dropD : List D → Nat → List D
  | cs, 0 => cs
  | [], _ => []
  | _ :: cs, k + 1 => dropD cs k
/-- What stands at a pointer: n cells. -/
def readAt (B : Prim) (h : HeapF) (c : C) (n : Nat) : Option (List C) :=
  match c with
  | .d (.ro cs i) => match takeD (dropD cs i) n with
    | some ds => some (ofData ds)
    | none => none
  | .loc id off => match h id with
    | some (.blk cs) => cutL cs off n
    | _ => none
  | .el id i off => match h id with
    | some (.arr _ _ es) => match B.nth es i with
      | some cs => match takeD (dropD cs off) n with
        | some ds => some (ofData ds)
        | none => none
      | none => none
    | _ => none
  | _ => none

def ints (e : EnvF) : List Arg → Option (List Int)
  | [] => some []
  | x :: r => match x.intK e .i64 with
    | some n => match ints e r with
      | some ns => some (n :: ns)
      | none => none
    | none => none
def pickB (b : Bool) (x y : Int) : Int := match b with
  | true => x
  | false => y
def minL (B : Prim) : Int → List Int → Int
  | x, [] => x
  | x, y :: r => minL B (pickB (B.lt y x) y x) r
def maxL (B : Prim) : Int → List Int → Int
  | x, [] => x
  | x, y :: r => maxL B (pickB (B.lt x y) y x) r

/-- A map's entries, of data or of an object. -/
def entries (h : HeapF) (sz : Nat) : C → Option (List (D × List D))
  | .d (.rmap q es) => match Nat.beq q sz with
    | true => some es
    | false => none
  | .lmap id => match h id with
    | some (.map q es) => match Nat.beq q sz with
      | true => some es
      | false => none
    | _ => none
  | _ => none
/-- What a look-up gives: cells (of a struct: sz of them; sz = 0: a scalar), and whether there is such a key. -/
def beqB : Bool → Bool → Bool
  | true, true => true
  | false, false => true
  | _, _ => false
def isAgg' : Nat → Bool
  | 0 => false
  | _ + 1 => true
def found (sz : Nat) (ok is : Bool) (cs : List D) : Option (V × List Obj) := match ok with
  | true => some (.tup [(isAgg' sz, ofData cs), (false, [.d (.bool is)])], [])
  | false => some (.v (isAgg' sz) (ofData cs), [])

def opF (B : Prim) (e : EnvF) (h : HeapF) (n : Nat) : Op → Option (V × List Obj)
  | .mv x => match x.val e with
    | some v => some (v, [])
    | none => none
  | .newNil t sz => some (.v false [.own n], [.arr t sz []])
  | .pick c a b => match c.bool e with
    | some t => match t with
      | true => match a.val e with
        | some v => some (v, [])
        | none => none
      | false => match b.val e with
        | some v => some (v, [])
        | none => none
    | none => none
  | .arith op k x y => match x.intK e k, y.intK e k with
    | some a, some b => liftI k (B.arith k op a b)
    | _, _ => none
  | .cmp op x y => match x.int e with
    | some (k, a) => match y.intK e k with
      | some b => liftB (B.cmp op a b)
      | none => none
    | none => none
  | .strOp op x y => match x.str e, y.str e with
    | some a, some b => liftD (B.strOp op a b)
    | _, _ => none
  | .boolEq neq x y => match x.bool e, y.bool e with
    | some a, some b => lift1 (.bool (match neq with | true => !(a == b) | false => a == b))
    | _, _ => none
  | .aggEq neq ks x y => match x.val e, y.val e with
    | some (.v true a), some (.v true b) => match B.eqL ks a b with
      | some t => lift1 (.bool (match neq with | true => !t | false => t))
      | none => none
    | _, _ => none
  | .errEq neq x => match x.dat e with
    | some .err0 => lift1 (.bool (!neq))
    | some .errX => lift1 (.bool neq)
    | _ => none
  | .not x => match x.bool e with
    | some a => lift1 (.bool (!a))
    | none => none
  | .neg k x => match x.intK e k with
    | some a => lift1 (.int k (B.sub k 0 a))
    | none => none
  | .alloc zs => some (.v false [.loc n 0], .blk (zeroC (n + 1) zs) :: zeroO zs)
  | .box x => match x.val e with
    | some (.v _ cs) => some (.v false [.loc n 0], [.blk cs])
    | _ => none
  | .build zs parts => match fillP e (zeroC n zs) parts with
    | some cs => some (.v true cs, zeroO zs)
    | none => none
  | .buildSlice _ sz parts => match rowOf e h sz parts with
    | some (es, []) => some (.v false [.d (.row sz es)], [])
    | _ => none
  | .buildArr t sz parts => match rowOf e h sz parts with
    | some (es, []) => some (.v false [.own n], [.arr t sz es])
    | _ => none
  | .min xs => match ints e xs with
    | some (x :: r) => lift1 (.int .i64 (minL B x r))
    | _ => none
  | .max xs => match ints e xs with
    | some (x :: r) => lift1 (.int .i64 (maxL B x r))
    | _ => none
  | .load agg k x => match x.cell e with
    | some c => match readAt B h c k with
      | some cs => some (.v agg cs, [])
      | none => none
    | none => none
  | .fieldAddr off x => match x.cell e with
    | some (.d (.ro cs i)) => lift1 (.ro cs (i + off))
    | some (.loc id o) => some (.v false [.loc id (o + off)], [])
    | some (.el id i o) => some (.v false [.el id i (o + off)], [])
    | _ => none
  | .field agg off k x => match x.val e with
    | some (.v true cs) => match cutL cs off k with
      | some r => some (.v agg r, [])
      | none => none
    | _ => none
  | .indexAddr sz x i => match x.cell e, i.int e with
    | some c, some (_, j) => match c with
      | .d (.row s es) => match Nat.beq s sz with
        | true => match B.nth es j with
          | some cs => lift1 (.ro cs 0)
          | none => none
        | false => none
      | .own id => match h id with
        | some (.arr _ s es) => match Nat.beq s sz with
          | true => match B.nth es j with
            | some _ => some (.v false [.el id j 0], [])
            | none => none
          | false => none
        | _ => none
      | _ => none
    | _, _ => none
  | .indexCells len sz x i => match x.cell e, i.dat e with
    | some (.loc id o), some (.int _ (.ofNat j)) => match Nat.blt j len with
      | true => some (.v false [.loc id (o + j * sz)], [])
      | false => none
    | _, _ => none
  | .index len sz agg x i => match x.val e, i.dat e with
    | some (.v true cs), some (.int _ (.ofNat j)) => match Nat.blt j len with
      | true => match cutL cs (j * sz) sz with
        | some r => some (.v agg r, [])
        | none => none
      | false => none
    | _, _ => none
  | .indexStr x i => match x.str e, i.int e with
    | some s, some (_, j) => liftI .u8 (B.strAt s j)
    | _, _ => none
  | .extract x i => match x.val e with
    | some (.tup vs) => match vs[i]? with
      | some (b, cs) => some (.v b cs, [])
      | none => none
    | _ => none
  | .lenStr x => match x.str e with
    | some s => lift1 (.int .i64 (B.strLen s))
    | none => none
  | .len x => match x.cell e with
    | some c => match elems h c with
      | some es => lift1 (.int .i64 (B.len es))
      | none => none
    | none => none
  | .cutStr x lo hi => match x.str e, Arg.oint e lo, Arg.oint e hi with
    | some s, some l, some u => match B.strCut s l u with
      | some r => lift1 (.str r)
      | none => none
    | _, _, _ => none
  | .cut sz x lo hi => match x.dat e, Arg.oint e lo, Arg.oint e hi with
    | some (.row s es), some l, some u => match Nat.beq s sz with
      | true => match B.cut es l u with
        | some r => lift1 (.row sz r)
        | none => none
      | false => none
    | _, _, _ => none
  | .conv k x => match x.int e with
    | some (_, a) => lift1 (.int k (B.conv k a))
    | none => none
  | .strBytes x => match x.str e with
    | some s => lift1 (.row 1 (B.bytes s))
    | none => none
  | .bytesStr x => match x.cell e with
    | some c => match elems h c with
      | some es => match B.ofBytes es with
        | some s => lift1 (.str s)
        | none => none
      | none => none
    | none => none
  | .mkFn f first cap => match firstArgs e first, capArgs e cap with
    | some a, some b => some (.v false [.fn f a b], [])
    | _, _ => none
  | .makeSlice t sz bytes zs x => match x.intK e .i64 with
    | some k => match Nat.beq zs.length sz with
      | true => match B.rep bytes k zs with
        | some es => some (.v false [.own n], [.arr t sz es])
        | none => none
      | false => none
    | none => none
  | .lookup sz ok zs x k => match x.cell e, k.str e with
    | some c, some s => match entries h sz c with
      | some es => match B.look es (.str s) with
        | some cs => found sz ok true cs
        | none => found sz ok false zs
      | none => none
    | _, _ => none
  | .makeMap sz => some (.v false [.lmap n], [.map sz []])
  | .nilCheck x => match x.cell e with
    | some c => match c with
      | .d (.ro cs i) => lift1 (.ro cs i)
      | .loc id o => some (.v false [.loc id o], [])
      | .el id i o => some (.v false [.el id i o], [])
      | .d (.fn f a b) => lift1 (.fn f a b)
      | .fn f a b => some (.v false [.fn f a b], [])
      | _ => none
    | none => none
  | _ => none

/-- How many numbers an operation takes for what it makes. -/
def Zero.isNil : Zero → Bool
  | .d _ => false
  | .nil _ _ => true
def countN : List Zero → Nat
  | [] => 0
  | z :: r => match z.isNil with
    | true => countN r + 1
    | false => countN r
def Op.fresh : Op → Nat
  | .newNil _ _ => 1
  | .buildArr _ _ _ => 1
  | .alloc zs => countN zs + 1
  | .box _ => 1
  | .build zs _ => countN zs
  | .append _ _ _ _ _ => 1
  | .makeSlice _ _ _ _ _ => 1
  | .makeMap _ => 1
  | _ => 0

/-- A store: the object that turns, and what it is then. -/
def writeAt (B : Prim) (h : HeapF) (c : C) (xs : List C) : Option (Nat × Obj) :=
  match c with
  | .loc id off => match h id with
    | some (.blk cs) => match setL cs off xs with
      | some r => some (id, .blk r)
      | none => none
    | _ => none
  | .el id i off => match h id with
    | some (.arr t sz es) => match xs with
      | [.d x] => match B.setEl es i off x with
        | some r => some (id, .arr t sz r)
        | none => none
      | _ => none
    | _ => none
  | _ => none

/-- What leaned on an object that has turned is told no more. -/
def killL (p : C → Bool) : List C → List C
  | [] => []
  | c :: r => match p c with
    | true => .dead :: killL p r
    | false => c :: killL p r
def killT (p : C → Bool) : List (Bool × List C) → List (Bool × List C)
  | [] => []
  | (b, cs) :: r => (b, killL p cs) :: killT p r
def V.kill (p : C → Bool) : V → V
  | .v b cs => .v b (killL p cs)
  | .tup vs => .tup (killT p vs)
def Env.kill (p : C → Bool) : Env → Env
  | [] => []
  | (t, v) :: r => (t, v.kill p) :: Env.kill p r
def Obj.kill (p : C → Bool) : Obj → Obj
  | .blk cs => .blk (killL p cs)
  | .saved a e => .saved a (Env.kill p e)
  | o => o
def Heap.kill (p : C → Bool) : Heap → Heap
  | [] => []
  | (i, o) :: r => (i, o.kill p) :: Heap.kill p r
def Cap.refers (id : Nat) : Cap → Bool
  | .loc i _ => Nat.beq i id
  | .d _ => false
def anyCap (p : Cap → Bool) : List Cap → Bool
  | [] => false
  | c :: r => match p c with
    | true => true
    | false => anyCap p r
def anyFirst (p : Cap → Bool) : List (Bool × List Cap) → Bool
  | [] => false
  | (_, cs) :: r => match anyCap p cs with
    | true => true
    | false => anyFirst p r
def C.refers (id : Nat) : C → Bool
  | .own i => Nat.beq i id
  | .el i _ _ => Nat.beq i id
  | .loc i _ => Nat.beq i id
  | .lmap i => Nat.beq i id
  | .fn _ first cap => match anyFirst (Cap.refers id) first with
    | true => true
    | false => anyCap (Cap.refers id) cap
  | _ => false
/-- Objects that are told no more. -/
def Heap.dels : Heap → List Nat → Heap
  | h, [] => h
  | h, i :: r => Heap.dels ((h.kill (C.refers i)).del i) r
def Env.drops : Env → List Nat → Env
  | e, [] => e
  | e, i :: r => Env.drops (e.drop (C.refers i)) r

/-! ### a function's results -/
def Res.val (B : Prim) (e : EnvF) (h : HeapF) : Res → Option (Bool × List C)
  | .tmp t => match e t with
    | some (.v b cs) => some (b, cs)
    | _ => none
  | .cell t agg k => match Arg.cell e (.t t) with
    | some c => match readAt B h c k with
      | some cs => some (agg, cs)
      | none => none
    | none => none
def resL (B : Prim) (e : EnvF) (h : HeapF) : List Res → Option (List (Bool × List C))
  | [] => some []
  | x :: r => match x.val B e h with
    | some v => match resL B e h r with
      | some vs => some (v :: vs)
      | none => none
    | none => none
section
variable (B : Prim) (G : Nat → List DV → R → Prop)
abbrev Cont := Env → Heap → Nat → Prop

def exOp (o : Op) (dst : Option Nat) (e : Env) (h : Heap) (n : Nat) (K : Cont) : Prop :=
  match o with
  | .store _ k x y => match x.cell e.get, y.val e.get with
    | some c, some (.v _ xs) => match Nat.beq xs.length k with
      | true => match writeAt B h.get c xs with
        | some (id, o) => K (e.delo dst) (h.set id o) n
        | none => False
      | false => False
    | _, _ => False
  | .append t sz bytes x y => match y.cell e.get with
    | some d => match elems h.get d with
      | some new => match x with
        | .nil => B.fits bytes new = true ∧ (∀ cs ∈ new, cs.length = sz) ∧
            K (e.puto dst (.v false [.own n])) (h.new n [.arr t sz new]) (n + 1)
        | x => match x.cell e.get with
          | some (.own id) => match h.get id with
            | some (.arr t' s es) => match Nat.beq t' t with
              | true => match Nat.beq s sz with
                | true => B.fits bytes (B.app es new) = true ∧ (∀ cs ∈ new, cs.length = sz) ∧
                    K ((e.kill (C.isOwn id)).puto dst (.v false [.own id])) ((h.kill (C.isOwn id)).set id (.arr t sz (B.app es new))) (n + 1)
                | false => False
              | false => False
            | _ => False
          | _ => False
      | none => False
    | none => False
  | .call mode f args => match mode with
    | 0 => match dvs e.get args with
      | some ds => ∃ r, G f ds r ∧ K (e.puto dst r.v) h n
      | none => False
    | 1 => match frozen e.get h.get args with
      | some (ds, _) => ∃ r, G f ds r ∧ r.scalar = true ∧ K (e.puto dst r.v) h n
      | none => False
    | _ => match frozen e.get h.get args with
      | some (ds, is) => ∃ r, G f ds r ∧ K ((e.drops is).puto dst r.v) (h.dels is) n
      | none => False
  | .callV mode x args => match x.cell e.get with
    | some c => match freezeC depth h.get c with
      | some (.fn f first cap, is) => match mode with
        | 0 => match dvs e.get args, is with
          | some ds, [] => ∃ r, G f (first ++ ds ++ cap.map (fun d => (false, [d]))) r ∧ K (e.puto dst r.v) h n
          | _, _ => False
        | _ => match frozen e.get h.get args with
          | some (ds, _) => ∃ r, G f (first ++ ds ++ cap.map (fun d => (false, [d]))) r ∧ r.scalar = true ∧ K (e.puto dst r.v) h n
          | none => False
      | _ => False
    | none => False
  | .callH f args => match args with
    | x :: rest => match x.cell e.get with
      | some (.own id) => match h.get id with
        | some (.arr t sz es) => match frozen e.get h.get rest with
          | some (ds, is) => match has is id with
            | true => False
            | false => ∃ es', G f ((false, []) :: (false, [.row sz es]) :: ds) (.one (false, [.row sz es'])) ∧ K (e.puto dst (.tup [])) (h.set id (.arr t sz es')) n
          | none => False
        | _ => False
      | _ => False
    | [] => False
  | .callVH _ _ => False
  | .mapSet sz x k y => match x.cell e.get, k.str e.get, y.val e.get with
    | some c, some s, some v => match c, v.dv with
      | .lmap id, some (b, cs) => match h.get id with
        | some (.map q es) => match Nat.beq q sz with
          | true => match beqB b (isAgg' q) with
            | true => K (e.delo dst) (h.set id (.map q (B.upd es (.str s) cs))) n
            | false => False
          | false => False
        | _ => False
      | _, _ => False
    | _, _, _ => False
  | o => match opF B e.get h.get n o with
    | some (v, objs) => K (e.puto dst v) (h.new n objs) (n + o.fresh)
    | none => False

/-- Is a guarded operation wanted? The slot of an operation that was left out says no. -/
def guardF (e : EnvF) (t : Nat) (want : Bool) : Option Bool := match Arg.bool e (.t t) with
  | some b => some (beqB b want)
  | none => match e t with
    | some (.tup []) => some false
    | _ => none
/-- What the slot of an operation that is left out holds. -/
def skipV : Op → Option V
  | .store _ _ _ _ => none
  | _ => some nullV
def Env.putX (e : Env) (dst : Option Nat) : Option V → Env
  | some v => e.puto dst v
  | none => e.delo dst
def exOps : List Oper → Env → Heap → Nat → Cont → Prop
  | [], e, h, n, K => K e h n
  | ⟨dst, o, none⟩ :: r, e, h, n, K => exOp B G o dst e h n (fun e h n => exOps r e h n K)
  | ⟨dst, o, some (t, want)⟩ :: r, e, h, n, K => match Arg.bool e.get (.t t) with
    | some b => match b with
      | true => match want with
        | true => exOp B G o dst e h n (fun e h n => exOps r e h n K)
        | false => exOps r (e.putX dst (skipV o)) h (n + o.fresh) K
      | false => match want with
        | false => exOp B G o dst e h n (fun e h n => exOps r e h n K)
        | true => exOps r (e.putX dst (skipV o)) h (n + o.fresh) K
    | none => match e.get t with
      | some (.tup []) => exOps r (e.putX dst (skipV o)) h (n + o.fresh) K
      | _ => False

/-- What is kept at a loop's head: the live slots, and the objects that were there before the loop. -/
def C.from (n : Nat) : C → Bool
  | .own i => Nat.ble n i
  | .el i _ _ => Nat.ble n i
  | .loc i _ => Nat.ble n i
  | .lmap i => Nat.ble n i
  | .fn _ first cap => (first.any fun p => p.2.any fun | .loc i _ => Nat.ble n i | .d _ => false) || cap.any fun | .loc i _ => Nat.ble n i | .d _ => false
  | .d _ => false
  | .dead => false
def Heap.clean (n : Nat) : Heap → Bool
  | [] => true
  | (_, .blk cs) :: r => match anyC (C.from n) cs with
    | true => false
    | false => Heap.clean n r
  | (_, .saved _ e) :: r => match Env.clean (C.from n) e with
    | true => Heap.clean n r
    | false => false
  | _ :: r => Heap.clean n r
def Heap.upTo (n : Nat) : Heap → Heap
  | [] => []
  | (i, o) :: r => match Nat.blt i n with
    | true => (i, o) :: Heap.upTo n r
    | false => Heap.upTo n r
def tidy (live : List Nat) (n : Nat) (e : Env) (h : Heap) (K : Env → Heap → Prop) : Prop :=
  match (e.keep live).clean (C.from n) with
  | true => match (h.upTo n).clean n with
    | true => K (e.keep live) (h.upTo n)
    | false => False
  | false => False

/-! ### two objects' numbers exchanged -/
def swapN (p q i : Nat) : Nat := match Nat.beq i p with
  | true => q
  | false => match Nat.beq i q with
    | true => p
    | false => i
def Cap.ren (p q : Nat) : Cap → Cap
  | .d x => .d x
  | .loc i o => .loc (swapN p q i) o
def renCapL (p q : Nat) : List Cap → List Cap
  | [] => []
  | c :: r => c.ren p q :: renCapL p q r
def renFirst (p q : Nat) : List (Bool × List Cap) → List (Bool × List Cap)
  | [] => []
  | (b, cs) :: r => (b, renCapL p q cs) :: renFirst p q r
def C.ren (p q : Nat) : C → C
  | .d x => .d x
  | .own i => .own (swapN p q i)
  | .loc i o => .loc (swapN p q i) o
  | .el i k o => .el (swapN p q i) k o
  | .fn f first cap => .fn f (renFirst p q first) (renCapL p q cap)
  | .lmap i => .lmap (swapN p q i)
  | .dead => .dead
def renL (p q : Nat) : List C → List C
  | [] => []
  | c :: r => c.ren p q :: renL p q r
def renP (p q : Nat) : List (Bool × List C) → List (Bool × List C)
  | [] => []
  | (b, cs) :: r => (b, renL p q cs) :: renP p q r
def V.ren (p q : Nat) : V → V
  | .v b cs => .v b (renL p q cs)
  | .tup vs => .tup (renP p q vs)
def Env.ren (p q : Nat) : Env → Env
  | [] => []
  | (t, v) :: r => (t, v.ren p q) :: Env.ren p q r
def Obj.ren (p q : Nat) : Obj → Obj
  | .blk cs => .blk (renL p q cs)
  | .saved a e => .saved a (Env.ren p q e)
  | o => o
def Heap.ren (p q : Nat) : Heap → Heap
  | [] => []
  | (i, o) :: r => (i, o.ren p q) :: Heap.ren p q r
/-- At a loop's head behind a round: two objects may exchange their numbers. -/
def tidyR (p q : Nat) (live : List Nat) (n : Nat) (e : Env) (h : Heap) (K : Env → Heap → Prop) : Prop := match h.get p with
  | some op => match h.get q with
    | some oq => tidy live n (e.ren p q) (((h.set p oq).set q op).ren p q) K
    | none => False
  | none => False

/-- A loop: what holds at its head, with a number that falls. -/
structure Loops (body : Env → Heap → Nat → (Out → Cont) → Prop) (live : List Nat) (n : Nat) (e : Env) (h : Heap) (K : Out → Cont) : Prop where
  out : ∃ (I : Nat → Env → Heap → Prop) (k0 : Nat), tidy live n e h (I k0) ∧
    ∀ k e h, I k e h → body e h n (fun o e' h' n' => match o with
      | .normal => tidy live n e' h' (fun e'' h'' => ∃ k', k' < k ∧ I k' e'' h'') ∨ ∃ p q, tidyR p q live n e' h' (fun e'' h'' => ∃ k', k' < k ∧ I k' e'' h'')
      | o => K o e' h' n')

/-- A callee's arguments: of a call by name; of a closure. -/
def argVs (e : EnvF) (x : Option Arg) (f : Nat) (args : List Arg) : Option (List V) := match vals e args with
  | some vs => match x with
    | none => some vs
    | some y => match y.cell e with
      | some (.fn g first cap) => match Nat.beq g f with
        | true => some (ofFirst first ++ vs ++ ofCaps cap)
        | false => none
      | _ => none
  | none => none
def argEnvV : Nat → List V → Env
  | _, [] => []
  | k, x :: r => (k, x) :: argEnvV (k + 1) r
def resV : List (Bool × List C) → V
  | [(b, cs)] => .v b cs
  | xs => .tup xs

/-- What an iterator's closure has captured. -/
def iterVs (c : C) (f : Nat) : Option (List V) := match c with
  | .d (.fn g first cap) => match Nat.beq g f, first with
    | true, [] => some (cap.map fun x => .v false [.d x])
    | _, _ => none
  | .fn g first cap => match Nat.beq g f, first with
    | true, [] => some (ofCaps cap)
    | _, _ => none
  | _ => none
def putVs : Env → List Nat → List V → Option Env
  | e, [], [] => some e
  | e, t :: ts, v :: vs => putVs (e.put t v) ts vs
  | _, _, _ => none

def ex : Option Loop → Code → Env → Heap → Nat → (Out → Cont) → Prop
  | Y, .skip, e, h, n, K => K .normal e h n
  | Y, .region ops live, e, h, n, K => exOps B G ops e h n (fun e h n => K .normal (e.keep live) h n)
  | Y, .seq a b, e, h, n, K => ex Y a e h n (fun o e h n => match o with
    | .normal => ex Y b e h n K
    | .exit i => K (.exit i) e h n
    | .ret => K .ret e h n)
  | Y, .cond c a b, e, h, n, K => match c.bool e.get with
    | some t => match t with
      | true => ex Y a e h n K
      | false => ex Y b e h n K
    | none => False
  | Y, .block id a, e, h, n, K => ex Y a e h n (fun o e h n => match o with
    | .normal => K .normal e h n
    | .exit i => match Nat.beq i id with
      | true => K .normal e h n
      | false => K (.exit i) e h n
    | .ret => K .ret e h n)
  | Y, .loop live a, e, h, n, K => Loops (fun e h n K => ex Y a e h n K) live n e h K
  | Y, .exit id, e, h, n, K => K (.exit id) e h n
  | Y, .ret, e, h, n, K => K .ret e h n
  | Y, .inl pre dst x f k args body rs post live, e, h, n, K => exOps B G pre e h n (fun e h n => match argVs e.get x f args with
    | some vs => match Nat.beq vs.length k with
      | true => ∀ tm : Act, ex none body (argEnvV 0 vs) (h ++ [(n, .saved tm e)]) (n + 1) (fun o e' h' n' => match o with
        | .exit _ => False
        | _ => match resL B e'.get h'.get rs with
          | some rv => match h'.get n with
            | some (.saved tm' e1) => tm' = tm ∧ exOps B G post (Env.puto e1 dst (resV rv)) (h'.del n) n' (fun e h n => K .normal (e.keep live) h n)
            | _ => False
          | none => False)
      | false => False
    | none => False)
  | Y, .scope a, e, h, n, K => ex Y a e h n K
  | Y, .frz t a, e, h, n, K => match e.get t with
    | some (.v false [.own id]) => match h.get id with
      | some (.arr _ sz es) => ex Y a ((e.drops [id]).put t (.v false [.d (.row sz es)])) (h.dels [id]) n K
      | _ => False
    | _ => False
  | _, .iter x f k body live, e, h, n, K => match x.cell e.get with
    | some c => match iterVs c f with
      | some caps => match Nat.beq (caps.length + 1) k with
        | true => ∀ (l : Nat) (tm : Act) (ρ : Loop), tm.tmps = ρ.tmps → ex (some ρ) body (argEnvV 0 (.v false [.d (.yld l n)] :: caps)) (h ++ [(n, .saved tm e), (n + 1, .lp l ρ .ready none)]) (n + 2) (fun o _ h' n' => match o with
          | .exit _ => False
          | _ => match h'.get n with
            | some (.saved tm' e1) => tm' = tm ∧ match h'.get (n + 1) with
              | some (.lp l' ρ' st p) => l' = l ∧ ρ' = ρ ∧ match st with
                | .busy => False
                | _ => match p with
                  | none => K .normal (Env.keep e1 live) ((h'.del n).del (n + 1)) n'
                  | some c => match c with
                    | .ret => K .ret e1 ((h'.del n).del (n + 1)) n'
                    | .exit i => K (.exit i) e1 ((h'.del n).del (n + 1)) n'
                    | _ => False
              | _ => False
            | _ => False)
        | false => False
      | none => False
    | none => False
  | Y, .yld pre dst y args params assign body post live, e, h, n, K => exOps B G pre e h n (fun e h n => match y.dat e.get, vals e.get args with
    | some d, some vs => match d with
      | .yld l id => match h.get id with
        | some (.saved aL eL) => match h.get (id + 1) with
          | some (.lp l0 ρ0 st0 p0) => match st0, putVs eL params vs with
            | .ready, some eR => l0 = l ∧ some ρ0 = Y ∧ aL.tmps = ρ0.tmps ∧ ∀ tm : Act, ex none assign eR (h ++ [(n, .saved tm e)]) (n + 1) (fun o e1 h1 n1 => match o with
              | .normal => match h1.get (id + 1) with
                | some (.lp l1 ρ1 st1 p1) => match st1 with
                  | .ready => l1 = l ∧ ρ1 = ρ0 ∧ ex none body e1 (h1.set (id + 1) (.lp l1 ρ1 .busy p1)) n1 (fun o _ h2 n2 => match h2.get n with
                    | some (.saved tm' e3) => tm' = tm ∧ match h2.get (id + 1) with
                      | some (.lp l2 ρ2 _ _) => l2 = l ∧ ρ2 = ρ0 ∧ match o with
                        | .normal => exOps B G post (Env.puto e3 dst (.v false [.d (.bool true)])) ((h2.del n).set (id + 1) (.lp l2 ρ2 .ready none)) n2 (fun e h n => K .normal (e.keep live) h n)
                        | .ret => exOps B G post (Env.puto e3 dst (.v false [.d (.bool false)])) ((h2.del n).set (id + 1) (.lp l2 ρ2 .done (some .ret))) n2 (fun e h n => K .normal (e.keep live) h n)
                        | .exit i => exOps B G post (Env.puto e3 dst (.v false [.d (.bool false)])) ((h2.del n).set (id + 1) (.lp l2 ρ2 .done (some (.exit i)))) n2 (fun e h n => K .normal (e.keep live) h n)
                      | _ => False
                    | _ => False)
                  | _ => False
                | _ => False
              | _ => False)
            | _, _ => False
          | _ => False
        | _ => False
      | _ => False
    | _, _ => False)
end

/-! ### a function's answer -/
def resR : List DV → R
  | [x] => .one x
  | xs => .many xs
/-- The call's answer: the results by what they read as at its end. -/
def answer (B : Prim) (rs : List Res) (Q : R → Prop) : Out → Cont := fun o e h _ => match o with
  | .exit _ => False
  | _ => match resL B e.get h.get rs with
    | some vs => match freezeP h.get vs with
      | some ds => Q (resR ds)
      | none => False
    | none => False
def argEnv : Nat → List DV → Env
  | _, [] => []
  | k, x :: r => (k, x.v) :: argEnv (k + 1) r

/-! ### the operations, as they are -/
def byteOf : List D → Option UInt8
  | [.int .u8 n] => some (UInt8.ofNat n.toNat)
  | _ => none
def sameKey : D → D → Bool
  | .str a, .str b => a.toList == b.toList
  | _, _ => false
def updL : List (D × List D) → D → List D → List (D × List D)
  | [], k, cs => [(k, cs)]
  | p :: r, k, cs => if sameKey p.1 k then (k, cs) :: r else p :: updL r k cs
def prims : Prim where
  lt a b := decide (a < b)
  le a b := decide (a ≤ b)
  eq a b := a == b
  add k a b := k.wrap (a + b)
  sub k a b := k.wrap (a - b)
  mul k a b := k.wrap (a * b)
  quo k a b := if b = 0 then none else some (k.wrap (a.tdiv b))
  rem _ a b := if b = 0 then none else some (a.tmod b)
  conv k a := k.wrap a
  strEq a b := a.toList == b.toList
  strLt a b := Op.bytesLess a.toList b.toList
  strCat a b := if a.size + b.size ≤ 9223372036854775807 then some (a ++ b) else none
  strLen s := (s.size : Int)
  strAt s i := (if 0 ≤ i then s[i.toNat]? else none).map fun b => (b.toNat : Int)
  strCut s lo hi :=
    let u := hi.getD s.size
    let l := lo.getD 0
    if 0 ≤ l ∧ l ≤ u ∧ u ≤ s.size then some (s.extract l.toNat u.toNat) else none
  bytes s := s.data.toList.map fun b => [.int .u8 b.toNat]
  ofBytes es := (es.mapM byteOf).map fun l => ⟨l.toArray⟩
  len es := (es.length : Int)
  nth es i := if 0 ≤ i then es[i.toNat]? else none
  cut es lo hi :=
    let u := hi.getD es.length
    let l := lo.getD 0
    if 0 ≤ l ∧ l ≤ u ∧ u ≤ es.length then some ((es.take u.toNat).drop l.toNat) else none
  fits bytes es := decide (es.length * bytes ≤ 140737488355328 ∧ es.length ≤ 9223372036854775807)
  app a b := a ++ b
  rep bytes n zs := if 0 ≤ n ∧ n ≤ 9223372036854775807 ∧ bytes * n ≤ 140737488355328 then some (List.replicate n.toNat zs) else none
  setEl es i off x := if 0 ≤ i then
      match es[i.toNat]? with
      | some cs => if off < cs.length then some (es.set i.toNat (cs.set off x)) else none
      | none => none
    else none
  look es k := (es.find? fun p => sameKey p.1 k).map (·.2)
  upd es k cs := updL es k cs
  ne a b := !(a == b)
  strNe a b := !(a.toList == b.toList)
end Go.Vi
namespace Go.Vi
open Go.RowKit
set_option linter.unusedVariables false

/-- A scalar's or a struct's value out of its cells. -/
def mkV : Bool → List Value → Value
  | true, us => .agg us.toArray
  | false, [u] => u
  | false, _ => .tuple #[]
def okLen : Bool → Nat → Prop
  | true, _ => True
  | false, n => n = 1

/-- Data in memory; none of it lies in a block of M. -/
inductive RD (M : Nat → Prop) (w : World) : D → Value → Prop where
  | int (k : IntKind) (n : Int) : RD M w (.int k n) (.int k n)
  | bool (b : Bool) : RD M w (.bool b) (.bool b)
  | str (s : ByteArray) : RD M w (.str s) (.string s)
  | rowE (sz : Nat) (a : Option Addr) (cap : Nat) : RD M w (.row sz []) (.slice a 0 cap)
  | row (sz : Nat) (es : List (List D)) (ad : Addr) (cap : Nat) (us : Nat → Value) (hs : ∀ cs ∈ es, cs.length = sz) (hc : es.length ≤ cap)
      (hb : ad.block < w.heap.size) (hm : ¬ M ad.block) (hr : ∀ j, j < es.flatten.length → w.cell? (ad.add j) = some (us j))
      (hd : ∀ (j : Nat) (d : D), es.flatten[j]? = some d → RD M w d (us j)) : RD M w (.row sz es) (.slice (some ad) es.length cap)
  | ro (cs : List D) (i : Nat) (ad : Addr) (us : Nat → Value) (hb : ad.block < w.heap.size) (hm : ¬ M ad.block)
      (hr : ∀ j, j < cs.length → w.cell? (ad.add j) = some (us j)) (hd : ∀ (j : Nat) (d : D), cs[j]? = some d → RD M w d (us j)) : RD M w (.ro cs i) (.pointer (some (ad.add i)))
  | ptr0 : RD M w .ptr0 (.pointer none)
  | fn (f : Nat) (first : List (Bool × List D)) (cap : List D) (us : Nat → Nat → Value) (vs : Nat → Value)
      (hl : ∀ (i : Nat) (b : Bool) (ds : List D), first[i]? = some (b, ds) → okLen b ds.length)
      (hf : ∀ (i : Nat) (b : Bool) (ds : List D), first[i]? = some (b, ds) → ∀ (j : Nat) (d : D), ds[j]? = some d → RD M w d (us i j)) (hc : ∀ (j : Nat) (d : D), cap[j]? = some d → RD M w d (vs j)) :
      RD M w (.fn f first cap) (.func (.func f) (first.zipIdx.map fun p => mkV p.1.1 ((List.range p.1.2.length).map (us p.2))).toArray ((List.range cap.length).map vs).toArray)
  | fn0 : RD M w .fn0 .nilFunc
  | err0 : RD M w .err0 .nilIface
  | errX (t : TypeId) (v : Value) : RD M w .errX (.iface t v)
  | map0 : RD M w .map0 (.map none)
  | yld (l id : Nat) : RD M w (.yld l id) (.func (.yield l) #[] #[])
  | rmap (sz : Nat) (es : List (D × List D)) (r : Nat) (ents : Array MapEntry) (clock : Nat) (us : Nat → Nat → Value) (hb : r < w.heap.size) (hm : ¬ M r) (hh : w.heap[r]? = some (.map ents clock)) (hl : ents.size = es.length) (hs : ∀ (j : Nat) (k : D) (cs : List D), es[j]? = some (k, cs) → ∃ s, k = .str s)
      (hk : ∀ (j : Nat) (k : D) (cs : List D) (me : MapEntry), es[j]? = some (k, cs) → ents[j]? = some me → RD M w k me.key)
      (hv : ∀ (j : Nat) (k : D) (cs : List D) (me : MapEntry), es[j]? = some (k, cs) → ents[j]? = some me → me.val = mkV (isAgg' sz) ((List.range cs.length).map (us j)) ∧ okLen (isAgg' sz) cs.length)
      (hd : ∀ (j : Nat) (k : D) (cs : List D), es[j]? = some (k, cs) → ∀ (i : Nat) (d : D), cs[i]? = some d → RD M w d (us j i)) : RD M w (.rmap sz es) (.map (some r))

/-- A block for the rounds' deferred calls. -/
def isDef : Option Go.Obj → Bool
  | some (.deferred _) => true
  | _ => false
/-- What the steps of the call leave: all that is not in M lies as it lay (but for blocks of deferred calls). -/
structure Leaves (M : Nat → Prop) (w w' : World) : Prop where
  size : w.heap.size ≤ w'.heap.size
  block : ∀ k, k < w.heap.size → ¬ M k → isDef w.heap[k]? = false → w'.heap[k]? = w.heap[k]?

theorem Leaves.refl (M : Nat → Prop) (w : World) : Leaves M w w := ⟨Nat.le_refl _, fun _ _ _ _ => rfl⟩
theorem Leaves.of_below {M : Nat → Prop} {w w' : World} (h : Below w.heap.size w w') : Leaves M w w' := ⟨h.size, fun k hk _ _ => h.block k hk⟩

theorem add_block (a : Addr) (n : Nat) : (a.add n).block = a.block := by unfold Addr.add; split <;> rfl
theorem add_add (a : Addr) (i j : Nat) : (a.add i).add j = a.add (i + j) := by
  unfold Addr.add
  by_cases hi : i = 0 <;> by_cases hj : j = 0 <;> simp [hi, hj, Nat.add_assoc]

theorem Leaves.cell {M : Nat → Prop} {w w' : World} (h : Leaves M w w') {p : Addr} {u : Value} (hb : p.block < w.heap.size) (hm : ¬ M p.block) (hu : w.cell? p = some u) : w'.cell? p = some u := by
  refine (World.cell?_of_block (h.block _ hb hm ?_)).trans hu
  unfold World.cell? at hu
  split at hu
  · rename_i heq; rw [heq]; rfl
  · cases hu

theorem RD.step {M M' : Nat → Prop} {w w' : World} {d : D} {v : Value} (h : RD M w d v) (hl' : Leaves M w w') (hM : ∀ k, k < w.heap.size → M' k → M k) : RD M' w' d v := by
  induction h with
  | int k n => exact .int k n
  | bool b => exact .bool b
  | str s => exact .str s
  | rowE sz a cap => exact .rowE sz a cap
  | row sz es ad cap us hs hc hb hm hr hd ih =>
    exact .row sz es ad cap us hs hc (Nat.lt_of_lt_of_le hb hl'.size) (fun h => hm (hM _ hb h))
      (fun j hj => hl'.cell (by rw [add_block]; exact hb) (by rw [add_block]; exact hm) (hr j hj)) ih
  | ro cs i ad us hb hm hr hd ih =>
    exact .ro cs i ad us (Nat.lt_of_lt_of_le hb hl'.size) (fun h => hm (hM _ hb h))
      (fun j hj => hl'.cell (by rw [add_block]; exact hb) (by rw [add_block]; exact hm) (hr j hj)) ih
  | ptr0 => exact .ptr0
  | fn f first cap us vs hl hf hc ih1 ih2 => exact .fn f first cap us vs hl ih1 ih2
  | fn0 => exact .fn0
  | err0 => exact .err0
  | errX t v => exact .errX t v
  | map0 => exact .map0
  | yld l id => exact .yld l id
  | rmap sz es r ents clock us hb hm hh hl hs hk hv hd ih1 ih2 =>
    exact .rmap sz es r ents clock us (Nat.lt_of_lt_of_le hb hl'.size) (fun h => hm (hM _ hb h)) ((hl'.block r hb hm (by rw [hh]; rfl)).trans hh) hl hs ih1 hv ih2

theorem RD.one {M : Nat → Prop} {w : World} {d : D} {v : Value} (h : RD M w d v) : v.oneCell' = true := by
  cases h <;> rfl

theorem RD.scalar {M M' : Nat → Prop} {w w' : World} {d : D} {v : Value} (h : RD M w d v) (hs : d.scalar = true) : RD M' w' d v := by
  cases h <;> first | (simp [D.scalar] at hs; done) | constructor

/-! ### lists of cells -/
/-- Cells' values, one by one. -/
def All2 {α β : Type} (R : α → β → Prop) : List α → List β → Prop
  | [], [] => True
  | a :: as, b :: bs => R a b ∧ All2 R as bs
  | _, _ => False

section
variable {α β : Type} {R R' : α → β → Prop}
theorem All2.length : ∀ {as : List α} {bs : List β}, All2 R as bs → as.length = bs.length
  | [], [], _ => rfl
  | _ :: _, _ :: _, h => by simp [All2.length h.2]
theorem All2.mono (hr : ∀ a b, R a b → R' a b) : ∀ {as : List α} {bs : List β}, All2 R as bs → All2 R' as bs
  | [], [], _ => trivial
  | _ :: _, _ :: _, h => ⟨hr _ _ h.1, All2.mono hr h.2⟩
theorem All2.mono_mem : ∀ {as : List α} {bs : List β}, (∀ a ∈ as, ∀ b, R a b → R' a b) → All2 R as bs → All2 R' as bs
  | [], [], _, _ => trivial
  | _ :: _, _ :: _, hr, h => ⟨hr _ List.mem_cons_self _ h.1, All2.mono_mem (fun a ha => hr a (List.mem_cons_of_mem _ ha)) h.2⟩
theorem All2.get : ∀ {as : List α} {bs : List β}, All2 R as bs → ∀ (j : Nat) (a : α), as[j]? = some a → ∃ b, bs[j]? = some b ∧ R a b
  | [], [], _, j, a, ha => by simp at ha
  | x :: as, y :: bs, h, 0, a, ha => by simp at ha; subst ha; exact ⟨y, rfl, h.1⟩
  | x :: as, y :: bs, h, j + 1, a, ha => by simpa using All2.get h.2 j a (by simpa using ha)
theorem All2.of_get : ∀ {as : List α} {bs : List β}, as.length = bs.length → (∀ (j : Nat) (a : α) (b : β), as[j]? = some a → bs[j]? = some b → R a b) → All2 R as bs
  | [], [], _, _ => trivial
  | [], _ :: _, h, _ => by simp at h
  | _ :: _, [], h, _ => by simp at h
  | _ :: _, _ :: _, h, hr => ⟨hr 0 _ _ rfl rfl, All2.of_get (by simpa using h) fun j a b ha hb => hr (j + 1) a b (by simpa using ha) (by simpa using hb)⟩
theorem All2.append : ∀ {as : List α} {bs : List β} {as' : List α} {bs' : List β}, All2 R as bs → All2 R as' bs' → All2 R (as ++ as') (bs ++ bs')
  | [], [], _, _, _, h' => h'
  | _ :: _, _ :: _, _, _, h, h' => ⟨h.1, All2.append h.2 h'⟩
theorem All2.take : ∀ (n : Nat) {as : List α} {bs : List β}, All2 R as bs → All2 R (as.take n) (bs.take n)
  | 0, _, _, _ => trivial
  | n + 1, [], [], _ => trivial
  | n + 1, _ :: _, _ :: _, h => ⟨h.1, All2.take n h.2⟩
theorem All2.drop : ∀ (n : Nat) {as : List α} {bs : List β}, All2 R as bs → All2 R (as.drop n) (bs.drop n)
  | 0, _, _, h => h
  | n + 1, [], [], _ => trivial
  | n + 1, _ :: _, _ :: _, h => All2.drop n h.2
theorem All2.map_left {γ : Type} (f : γ → α) : ∀ {cs : List γ} {bs : List β}, All2 R (cs.map f) bs ↔ All2 (fun c b => R (f c) b) cs bs
  | [], [] => Iff.rfl
  | [], _ :: _ => Iff.rfl
  | _ :: _, [] => Iff.rfl
  | _ :: _, _ :: _ => ⟨fun h => ⟨h.1, (All2.map_left f).1 h.2⟩, fun h => ⟨h.1, (All2.map_left f).2 h.2⟩⟩
end

/-- A value that is data. -/
def RDV (M : Nat → Prop) (w : World) (x : DV) (v : Value) : Prop := ∃ us, All2 (RD M w) x.2 us ∧ okLen x.1 us.length ∧ v = mkV x.1 us
/-- What a call gives back. -/
def RR (M : Nat → Prop) (w : World) : R → Value → Prop
  | .one x, v => RDV M w x v
  | .many xs, v => ∃ us, v = .tuple us.toArray ∧ All2 (RDV M w) xs us

/-- What some variables of the library hold. -/
def VarsOk (P : Program) (w : World) : Prop :=
  (∃ tp p, w.var? P "strconv.ErrSyntax" = some #[.iface tp p]) ∧ (∃ tp p, w.var? P "strconv.ErrRange" = some #[.iface tp p]) ∧ Lib.TabIs P w "internal/strconv.uint64pow10" .u64 Lib.pow10Tab
theorem var_step {P : Program} {w w' : World} {s : String} {cs : Array Value} (h : w.var? P s = some cs) (hb : ∀ k, k < w.heap.size → w'.heap[k]? = w.heap[k]?) : w'.var? P s = some cs := by
  unfold World.var? at h ⊢
  cases hg : P.globalNamed s with
  | none => rw [hg] at h; cases h
  | some g =>
    rw [hg] at h
    simp only [Option.bind_some] at h ⊢
    by_cases hl : g < w.heap.size
    · rw [hb g hl]
      exact h
    · rw [Array.getElem?_eq_none (by omega)] at h
      cases h
theorem VarsOk.step {P : Program} {w w' : World} (h : VarsOk P w) (hb : ∀ k, k < w.heap.size → w'.heap[k]? = w.heap[k]?) : VarsOk P w' := by
  obtain ⟨⟨t1, p1, h1⟩, ⟨t2, p2, h2⟩, h3⟩ := h
  exact ⟨⟨t1, p1, var_step h1 hb⟩, ⟨t2, p2, var_step h2 hb⟩, var_step h3 hb⟩
/-- **A function's contract:** called with data, it gives back data, and of what was there nothing turns. -/
def Good (P : Program) (f : Nat) (args : List DV) (r : R) : Prop :=
  ∀ (M : Nat → Prop) (w : World) (as : List Value), VarsOk P w → (∀ k, M k → k < w.heap.size) → All2 (RDV M w) args as →
    Calls P f as.toArray w fun e w' => ∃ v, e = .returned v ∧ RR M w' r v ∧ Below w.heap.size w w'
/-- The same in each world that has grown out of one. -/
def GoodAt (P : Program) (w0 : World) (B0 : Nat → Prop) (f : Nat) (args : List DV) (r : R) : Prop :=
  ∀ (M : Nat → Prop) (w : World) (as : List Value), (∀ k, k < w0.heap.size → ¬ B0 k → w.heap[k]? = w0.heap[k]?) → (∀ k, M k → k < w.heap.size) → All2 (RDV M w) args as →
    Calls P f as.toArray w fun e w' => ∃ v, e = .returned v ∧ RR M w' r v ∧ Below w.heap.size w w'
theorem Good.at {P : Program} {w0 : World} (hV : VarsOk P w0) {f : Nat} {args : List DV} {r : R} (h : Good P f args r) : GoodAt P w0 (fun _ => False) f args r :=
  fun M w as hb => h M w as (hV.step fun k hk => hb k hk fun h => h)

/-- The block that an object's value leads to. -/
def blkOf : Value → Option Nat
  | .pointer (some a) => some a.block
  | .slice (some a) _ _ => some a.block
  | .map (some r) => some r
  | _ => none

/-- A call that is given a row of its caller's own, and puts other scalars in it. -/
def GoodWAt (P : Program) (w0 : World) (B0 : Nat → Prop) (f : Nat) (sz : Nat) (es : List (List D)) (args : List DV) (es' : List (List D)) : Prop :=
  es'.length = es.length ∧ (∀ cs ∈ es', cs.length = sz ∧ scalarL cs = true) ∧
  ∀ (M : Nat → Prop) (w : World) (e : TypeId) (v : Value) (xs as : List Value), (∀ k, k < w0.heap.size → ¬ B0 k → w.heap[k]? = w0.heap[k]?) → (∀ k, M k → k < w.heap.size) →
    w.ownsRow 0 e sz v es.length xs → All2 (RD M w) es.flatten xs → (∀ b, blkOf v = some b → b < w.heap.size ∧ M b) → All2 (RDV M w) args as →
    Calls P f (v :: as).toArray w fun o w' => o = .returned (.tuple #[]) ∧ w'.os = w.os ∧ w'.tape = w.tape ∧ w'.output = w.output ∧ w.heap.size ≤ w'.heap.size ∧
      (∀ k, k < w.heap.size → blkOf v ≠ some k → w'.heap[k]? = w.heap[k]?) ∧ ∃ xs', w'.ownsRow 0 e sz v es.length xs' ∧ All2 (RD M w') es'.flatten xs'
/-- The same, in each world. -/
def GoodW (P : Program) (f : Nat) (sz : Nat) (es : List (List D)) (args : List DV) (es' : List (List D)) : Prop :=
  es'.length = es.length ∧ (∀ cs ∈ es', cs.length = sz ∧ scalarL cs = true) ∧
  ∀ (M : Nat → Prop) (w : World) (e : TypeId) (v : Value) (xs as : List Value), VarsOk P w → (∀ k, M k → k < w.heap.size) →
    w.ownsRow 0 e sz v es.length xs → All2 (RD M w) es.flatten xs → (∀ b, blkOf v = some b → b < w.heap.size ∧ M b) → All2 (RDV M w) args as →
    Calls P f (v :: as).toArray w fun o w' => o = .returned (.tuple #[]) ∧ w'.os = w.os ∧ w'.tape = w.tape ∧ w'.output = w.output ∧ w.heap.size ≤ w'.heap.size ∧
      (∀ k, k < w.heap.size → blkOf v ≠ some k → w'.heap[k]? = w.heap[k]?) ∧ ∃ xs', w'.ownsRow 0 e sz v es.length xs' ∧ All2 (RD M w') es'.flatten xs'
theorem GoodW.at {P : Program} {w0 : World} (hV : VarsOk P w0) {f sz : Nat} {es : List (List D)} {args : List DV} {es' : List (List D)} (h : GoodW P f sz es args es') : GoodWAt P w0 (fun _ => False) f sz es args es' :=
  ⟨h.1, h.2.1, fun M w e v xs as hb => h.2.2 M w e v xs as (hV.step fun k hk => hb k hk fun h => h)⟩
/-- Such a call is told by a first argument that there is not. -/
def uncoded : List DV → Bool
  | (false, []) :: _ => false
  | _ => true

/-! ### local objects -/
inductive Sh where
  | b
  | a (sz len : Nat)
  | m
  | kept
def Obj.sh : Obj → Sh
  | .blk _ => .b
  | .arr _ sz es => .a sz es.length
  | .map _ _ => .m
  | .saved _ _ => .kept
  | .lp _ _ _ _ => .kept


def RCap (M : Nat → Prop) (w : World) (μ : Nat → Value) (s : Nat → Option Sh) : Cap → Value → Prop
  | .d x, v => RD M w x v
  | .loc id off, v => s id = some .b ∧ ∃ g, μ id = .pointer (some ⟨g, 0, none⟩) ∧ v = .pointer (some ⟨g, off, none⟩)
def RC (M : Nat → Prop) (w : World) (μ : Nat → Value) (s : Nat → Option Sh) : C → Value → Prop
  | .d x, v => RD M w x v
  | .own id, v => (∃ sz len, s id = some (.a sz len)) ∧ v = μ id
  | .loc id off, v => s id = some .b ∧ ∃ g, μ id = .pointer (some ⟨g, 0, none⟩) ∧ v = .pointer (some ⟨g, off, none⟩)
  | .el id i off, v => ∃ sz len g cap, s id = some (.a sz len) ∧ 0 ≤ i ∧ i < len ∧ μ id = .slice (some ⟨g, 0, none⟩) len cap ∧ v = .pointer (some ⟨g, i.toNat * sz + off, none⟩)
  | .fn f first cap, v => ∃ (fs : List (List Value)) (cs : List Value), All2 (fun p us => All2 (RCap M w μ s) p.2 us ∧ okLen p.1 us.length) first fs ∧ All2 (RCap M w μ s) cap cs ∧
      v = .func (.func f) ((first.zip fs).map fun p => mkV p.1.1 p.2).toArray cs.toArray
  | .lmap id, v => s id = some .m ∧ v = μ id
  | .dead, v => v.oneCell' = true
def RV (M : Nat → Prop) (w : World) (μ : Nat → Value) (s : Nat → Option Sh) : V → Value → Prop
  | .v b cs, v => ∃ us, All2 (RC M w μ s) cs us ∧ okLen b us.length ∧ v = mkV b us
  | .tup vs, v => ∃ us, v = .tuple us.toArray ∧ All2 (fun p u => ∃ xs, All2 (RC M w μ s) p.2 xs ∧ okLen p.1 xs.length ∧ u = mkV p.1 xs) vs us

/-- A map's entries in memory. -/
def MapOk (M : Nat → Prop) (w : World) (sz : Nat) : List (D × List D) → List MapEntry → Prop :=
  All2 (fun p me => (∃ s, p.1 = .str s ∧ me.key = .string s) ∧ ∃ us, All2 (RD M w) p.2 us ∧ okLen (isAgg' sz) us.length ∧ me.val = mkV (isAgg' sz) us)
theorem MapOk.step {M M' : Nat → Prop} {w w' : World} {sz : Nat} {es : List (D × List D)} {ents : List MapEntry} (h : MapOk M w sz es ents) (hr : ∀ d v, RD M w d v → RD M' w' d v) : MapOk M' w' sz es ents :=
  All2.mono (fun _ _ ⟨h6, us, h7, h8⟩ => ⟨h6, us, h7.mono hr, h8⟩) h
theorem All2.list_get {α β : Type} {R : α → β → Prop} {as : List α} {bs : List β} (h : All2 R as bs) (j : Nat) (a : α) (b : β) (ha : as[j]? = some a) (hb : bs[j]? = some b) : R a b := by
  obtain ⟨b', h1, h2⟩ := h.get j a ha
  rw [hb] at h1
  cases h1
  exact h2
theorem RD.map_open {M : Nat → Prop} {w : World} {sz : Nat} {es : List (D × List D)} {u : Value} (h : RD M w (.rmap sz es) u) : ∃ r ents clock, u = .map (some r) ∧ w.heap[r]? = some (.map ents clock) ∧ MapOk M w sz es ents.toList := by
  cases h with
  | rmap _ _ r ents clock us hb hm hh hl hs hk hv hd =>
    refine ⟨r, ents, clock, rfl, hh, All2.of_get (by simpa using hl.symm) fun j p me hp hme => ?_⟩
    obtain ⟨k, cs⟩ := p
    have hme' : ents[j]? = some me := by simpa using hme
    obtain ⟨s, rfl⟩ := hs j k cs hp
    obtain ⟨h1, h2⟩ := hv j _ cs me hp hme'
    refine ⟨⟨s, rfl, ?_⟩, (List.range cs.length).map (us j), ?_, by simpa using h2, h1⟩
    · have h3 := hk j _ cs me hp hme'
      generalize me.key = q at h3
      cases h3
      rfl
    · refine All2.of_get (by simp) fun i d u hd' hu => ?_
      have hlt := (List.getElem?_eq_some_iff.1 hd').1
      rw [List.getElem?_map, List.getElem?_range hlt] at hu
      simp at hu
      subst hu
      exact hd j _ cs hp i d hd'
theorem RD.map_shut {M : Nat → Prop} {w : World} {sz : Nat} {es : List (D × List D)} {r : Nat} {ents : Array MapEntry} {clock : Nat} (hm : ¬ M r) (hh : w.heap[r]? = some (.map ents clock)) (h : MapOk M w sz es ents.toList) : RD M w (.rmap sz es) (.map (some r)) := by
  have key : ∀ j : Nat, ∃ us : List Value, ∀ (k : D) (cs : List D) (me : MapEntry), es[j]? = some (k, cs) → ents[j]? = some me → ((∃ s, k = .str s ∧ me.key = .string s) ∧ All2 (RD M w) cs us ∧ okLen (isAgg' sz) us.length ∧ me.val = mkV (isAgg' sz) us) := by
    intro j
    cases hj : es[j]? with
    | none => exact ⟨[], fun _ _ _ h => by cases h⟩
    | some p =>
      obtain ⟨me, h1, h2, us, h3⟩ := h.get j p hj
      refine ⟨us, fun k cs me' hk hme => ?_⟩
      cases hk
      have : me' = me := by
        have h4 : ents[j]? = some me := by simpa using h1
        rw [h4] at hme; exact (Option.some.inj hme).symm
      subst this
      exact ⟨h2, h3⟩
  have hlen := h.length
  obtain ⟨F, key⟩ : ∃ F : Nat → List Value, ∀ (j : Nat) (k : D) (cs : List D) (me : MapEntry), es[j]? = some (k, cs) → ents[j]? = some me → ((∃ s, k = .str s ∧ me.key = .string s) ∧ All2 (RD M w) cs (F j) ∧ okLen (isAgg' sz) (F j).length ∧ me.val = mkV (isAgg' sz) (F j)) :=
    ⟨fun j => (key j).choose, fun j => (key j).choose_spec⟩
  refine .rmap sz es r ents clock (fun j i => (F j).getD i .nilFunc) (Array.getElem?_eq_some_iff.1 hh).1 hm hh (by simpa using hlen.symm) ?_ ?_ ?_ ?_
  · intro j k cs hj
    obtain ⟨me, h1, ⟨s, h2, _⟩, _⟩ := h.get j _ hj
    exact ⟨s, h2⟩
  · intro j k cs me hj hme
    obtain ⟨⟨s, h1, h2⟩, _⟩ := key j k cs me hj hme
    rw [h1, h2]
    exact .str s
  · intro j k cs me hj hme
    obtain ⟨_, h1, h2, h3⟩ := key j k cs me hj hme
    have hl := h1.length
    have : (List.range cs.length).map (fun i => (F j).getD i .nilFunc) = F j := by
      apply List.ext_getElem?
      intro i
      rw [List.getElem?_map]
      rcases Nat.lt_or_ge i cs.length with hi | hi
      · rw [List.getElem?_range hi]
        have hi' : i < (F j).length := by omega
        simp [List.getD, List.getElem?_eq_getElem hi']
      · rw [List.getElem?_eq_none (by simpa using hi), List.getElem?_eq_none (by omega)]
        rfl
    rw [this]
    exact ⟨h3, by rw [hl]; exact h2⟩
  · intro j k cs hj i d hd
    obtain ⟨me, hme, _⟩ := h.get j _ hj
    obtain ⟨_, h1, _⟩ := key j k cs me hj (by simpa using hme)
    obtain ⟨u, h2, h3⟩ := h1.get i d hd
    simpa [List.getD, h2] using h3

/-- The marks of ranges over functions among the deferred calls: their blocks are empty. -/
def DefOk (B : Nat) : List Deferred → World → Prop
  | [], _ => True
  | d :: ds, w => (∃ D, d = { target := .collected D, args := #[] } ∧ B ≤ D ∧ w.heap[D]? = some (.deferred (some [])) ∧ ∀ d' ∈ ds, d' ≠ { target := .collected D, args := #[] }) ∧ DefOk B ds w
theorem DefOk.step {B : Nat} {w w' : World} (h : ∀ D : Nat, w.heap[D]? = some (Go.Obj.deferred (some [])) → w'.heap[D]? = some (Go.Obj.deferred (some []))) : ∀ {ds : List Deferred}, DefOk B ds w → DefOk B ds w'
  | [], _ => trivial
  | _ :: _, ⟨⟨D, h1, h2, h3, h4⟩, h5⟩ => ⟨⟨D, h1, h2, h D h3, h4⟩, h5.step h⟩

theorem DefOk.both {B B' : Nat} {w w' : World} : ∀ {ds : List Deferred}, DefOk B ds w → DefOk B' ds w' → DefOk B ds w'
  | [], _, _ => trivial
  | _ :: _, ⟨⟨D, h1, h2, _, h4⟩, h5⟩, ⟨⟨D', h1', _, h3', _⟩, h5'⟩ => by
    subst h1
    have : D = D' := by injection h1' with h _; injection h
    subst this
    exact ⟨⟨D, rfl, h2, h3', h4⟩, h5.both h5'⟩

/-- A local object in memory. -/
def OOk (M : Nat → Prop) (w : World) (μ : Nat → Value) (s : Nat → Option Sh) (v : Value) : Obj → Prop
  | .blk cs => ∃ g t us, v = .pointer (some ⟨g, 0, none⟩) ∧ w.heap[g]? = some (.cells us t (0, 0)) ∧ All2 (RC M w μ s) cs us.toList
  | .arr e sz es => (∀ cs ∈ es, cs.length = sz) ∧ ∃ xs, w.ownsRow 0 e sz v es.length xs ∧ All2 (RD M w) es.flatten xs
  | .map sz es => ∃ r ents clock, v = .map (some r) ∧ w.heap[r]? = some (.map ents clock) ∧ MapOk M w sz es ents.toList
  | .saved a e => v = .tuple #[] ∧ (∃ B, DefOk B a.defers w) ∧ ∀ t x, Env.get e t = some x → ∃ u, a.tmps[t]? = some u ∧ RV M w μ s x u
  | .lp l ρ st p => v = .map (some l) ∧ w.heap[l]? = some (.loop { ρ with state := st, pending := p })

end Go.Vi
namespace Go.Vi
open Go.RowKit
set_option linter.unusedVariables false

/-- The blocks that nobody's data may lie in: the callers', and this call's own. -/
def Mut (M0 : Nat → Prop) (μ : Nat → Value) (h : HeapF) : Nat → Prop := fun k => M0 k ∨ ∃ id o, h id = some o ∧ blkOf (μ id) = some k
def shapes (h : HeapF) : Nat → Option Sh := fun id => (h id).map Obj.sh

structure Sim (w0 : World) (B0 M0 : Nat → Prop) (N : Nat) (μ : Nat → Value) (e : EnvF) (h : HeapF) (a : Act) (w : World) : Prop where
  tmps : a.tmps.size = N
  defers : DefOk w0.heap.size a.defers w
  env : ∀ t v, e t = some v → ∃ u, a.tmps[t]? = some u ∧ RV (Mut M0 μ h) w μ (shapes h) v u
  heap : ∀ id o, h id = some o → OOk (Mut M0 μ h) w μ (shapes h) (μ id) o
  inj : ∀ i j o p k, h i = some o → h j = some p → blkOf (μ i) = some k → blkOf (μ j) = some k → i = j
  own : ∀ id o k, h id = some o → blkOf (μ id) = some k → (B0 k ∨ w0.heap.size ≤ k) ∧ k < w.heap.size ∧ ¬ M0 k
  old : ∀ k, M0 k → k < w0.heap.size
  os : w.os = w0.os
  tape : w.tape = w0.tape
  output : w.output = w0.output
  size : w0.heap.size ≤ w.heap.size
  frame : ∀ k, k < w0.heap.size → ¬ B0 k → w.heap[k]? = w0.heap[k]?

section
variable {M M' : Nat → Prop} {w w' : World} {μ μ' : Nat → Value} {s s' : Nat → Option Sh}

/-- What of the numbers is kept: shapes, and the values that stand for them. -/
def Agree (μ μ' : Nat → Value) (s s' : Nat → Option Sh) : Prop := ∀ id x, s id = some x → s' id = some x ∧ μ' id = μ id
theorem Agree.refl (μ : Nat → Value) (s : Nat → Option Sh) : Agree μ μ s s := fun _ _ h => ⟨h, rfl⟩

theorem RCap.step {c : Cap} {v : Value} (h : RCap M w μ s c v) (hl : Leaves M w w') (hM : ∀ k, k < w.heap.size → M' k → M k) (ha : Agree μ μ' s s') : RCap M' w' μ' s' c v := by
  cases c with
  | d x => exact RD.step h hl hM
  | loc id off =>
    obtain ⟨h1, g, h2, h3⟩ := h
    obtain ⟨a1, a2⟩ := ha _ _ h1
    exact ⟨a1, g, a2.trans h2, h3⟩

/-- Behind a step: cells that do not lean on an array that has turned. -/
theorem RC.step {c : C} {v : Value} {chg : Nat → Prop} (h : RC M w μ s c v) (hl : Leaves M w w') (hM : ∀ k, k < w.heap.size → M' k → M k)
    (ha : ∀ id x, s id = some x → ¬ chg id → s' id = some x ∧ μ' id = μ id) (hb : ∀ id, s id = some .b → ¬ chg id) (hm : ∀ id, s id = some .m → ¬ chg id)
    (hc : ∀ id, c.isOwn id = true → ¬ chg id) : RC M' w' μ' s' c v := by
  have hcap : ∀ {c : Cap} {v : Value}, RCap M w μ s c v → RCap M' w' μ' s' c v := by
    intro c v h
    cases c with
    | d x => exact RD.step h hl hM
    | loc id off =>
      obtain ⟨h1, g, h2, h3⟩ := h
      obtain ⟨a1, a2⟩ := ha _ _ h1 (hb _ h1)
      exact ⟨a1, g, a2.trans h2, h3⟩
  cases c with
  | d x => exact RD.step h hl hM
  | own id =>
    obtain ⟨⟨sz, len, h1⟩, h2⟩ := h
    obtain ⟨a1, a2⟩ := ha _ _ h1 (hc id (by simp [C.isOwn]))
    exact ⟨⟨sz, len, a1⟩, h2.trans a2.symm⟩
  | loc id off =>
    obtain ⟨h1, g, h2, h3⟩ := h
    obtain ⟨a1, a2⟩ := ha _ _ h1 (hb _ h1)
    exact ⟨a1, g, a2.trans h2, h3⟩
  | el id i off =>
    obtain ⟨sz, len, g, cap, h1, h2, h3, h4, h5⟩ := h
    obtain ⟨a1, a2⟩ := ha _ _ h1 (hc id (by simp [C.isOwn]))
    exact ⟨sz, len, g, cap, a1, h2, h3, a2.trans h4, h5⟩
  | fn f first cap =>
    obtain ⟨fs, cs, h1, h2, h3⟩ := h
    exact ⟨fs, cs, h1.mono fun p us hp => ⟨hp.1.mono fun _ _ => hcap, hp.2⟩, h2.mono fun _ _ => hcap, h3⟩
  | lmap id =>
    obtain ⟨h1, h2⟩ := h
    obtain ⟨a1, a2⟩ := ha _ _ h1 (hm _ h1)
    exact ⟨a1, h2.trans a2.symm⟩
  | dead => exact h

theorem RC.keep {c : C} {v : Value} (h : RC M w μ s c v) (hl : Leaves M w w') (hM : ∀ k, k < w.heap.size → M' k → M k) (ha : Agree μ μ' s s') : RC M' w' μ' s' c v :=
  h.step (chg := fun _ => False) hl hM (fun id x hx _ => ha id x hx) (fun _ _ => id) (fun _ _ => id) (fun _ _ => id)

theorem anyC_mem {p : C → Bool} : ∀ {cs : List C}, anyC p cs = false → ∀ c ∈ cs, p c = false
  | [], _, c, hc => by cases hc
  | x :: r, h, c, hc => by
    simp only [anyC] at h
    cases hx : p x with
    | true => simp [hx] at h
    | false =>
      rw [hx] at h
      rcases List.mem_cons.1 hc with rfl | hc
      · exact hx
      · exact anyC_mem h c hc
theorem anyP_mem {p : C → Bool} : ∀ {vs : List (Bool × List C)}, anyP p vs = false → ∀ x ∈ vs, anyC p x.2 = false
  | [], _, c, hc => by cases hc
  | (b, cs) :: r, h, c, hc => by
    simp only [anyP] at h
    cases hx : anyC p cs with
    | true => simp [hx] at h
    | false =>
      rw [hx] at h
      rcases List.mem_cons.1 hc with rfl | hc
      · exact hx
      · exact anyP_mem h c hc

theorem RV.step {x : V} {v : Value} {chg : Nat → Prop} (h : RV M w μ s x v) (hl : Leaves M w w') (hM : ∀ k, k < w.heap.size → M' k → M k)
    (ha : ∀ id x, s id = some x → ¬ chg id → s' id = some x ∧ μ' id = μ id) (hb : ∀ id, s id = some .b → ¬ chg id) (hm : ∀ id, s id = some .m → ¬ chg id)
    (hc : ∀ id, x.any (C.isOwn id) = true → ¬ chg id) : RV M' w' μ' s' x v := by
  cases x with
  | v b cs =>
    obtain ⟨us, h1, h2⟩ := h
    refine ⟨us, h1.mono_mem fun c hm' u hu => hu.step hl hM ha hb hm fun id hi => hc id ?_, h2⟩
    show anyC (C.isOwn id) cs = true
    cases hx : anyC (C.isOwn id) cs with
    | true => rfl
    | false => rw [anyC_mem hx c hm'] at hi; cases hi
  | tup vs =>
    obtain ⟨us, rfl, h1⟩ := h
    refine ⟨us, rfl, h1.mono_mem fun p hp u hu => ?_⟩
    obtain ⟨xs, h2, h3⟩ := hu
    refine ⟨xs, h2.mono_mem fun c hm' u hu => hu.step hl hM ha hb hm fun id hi => hc id ?_, h3⟩
    show anyP (C.isOwn id) vs = true
    cases hx : anyP (C.isOwn id) vs with
    | true => rfl
    | false => rw [anyC_mem (anyP_mem hx p hp) c hm'] at hi; cases hi
theorem RV.keep {x : V} {v : Value} (h : RV M w μ s x v) (hl : Leaves M w w') (hM : ∀ k, k < w.heap.size → M' k → M k) (ha : Agree μ μ' s s') : RV M' w' μ' s' x v :=
  h.step (chg := fun _ => False) hl hM (fun id x hx _ => ha id x hx) (fun _ _ => id) (fun _ _ => id) (fun _ _ => id)
end

/-! ### operands -/
def constOk : Value → D → Bool
  | .int k n, .int q m => decide (k = q) && n == m
  | .bool a, .bool b => a == b
  | .string s, .str t => s.data.toList == t.data.toList
  | .slice none 0 0, .row _ [] => true
  | .pointer none, .ptr0 => true
  | .nilFunc, .fn0 => true
  | .nilIface, .err0 => true
  | .map none, .map0 => true
  | _, _ => false
theorem constOk_sound {v : Value} {x : D} (h : constOk v x = true) (M : Nat → Prop) (w : World) : RD M w x v := by
  unfold constOk at h
  split at h
  · simp only [Bool.and_eq_true, decide_eq_true_eq, beq_iff_eq] at h
    obtain ⟨rfl, rfl⟩ := h
    exact .int _ _
  · simp only [beq_iff_eq] at h
    subst h
    exact .bool _
  · rename_i s t
    simp only [beq_iff_eq] at h
    have : s = t := by
      cases s; cases t
      congr 1
      exact Array.toList_inj.1 h
    subst this
    exact .str _
  · exact .rowE _ _ _
  · exact .ptr0
  · exact .fn0
  · exact .err0
  · exact .map0
  · cases h
def argOk : Operand → Arg → Bool
  | .tmp t, .t n => t == n
  | .const v, .con x => constOk v x
  | .const (.slice none 0 0), .nil => true
  | .func f, .con (.fn g [] []) => f == g
  | _, _ => false

section
variable {w0 : World} {B0 M0 : Nat → Prop} {N : Nat} {μ : Nat → Value} {e : EnvF} {h : HeapF} {a : Act} {w : World}

theorem RV_cell {M : Nat → Prop} {w : World} {μ : Nat → Value} {s : Nat → Option Sh} {c : C} {v : Value} : RV M w μ s (.v false [c]) v ↔ RC M w μ s c v := by
  constructor
  · rintro ⟨us, h1, h2, rfl⟩
    match us, h1 with
    | [u], h1 => exact h1.1
  · intro h
    exact ⟨[v], ⟨h, trivial⟩, rfl, rfl⟩

theorem getD_of {α : Type} {xs : Array α} {t : Nat} {u d : α} (h : xs[t]? = some u) : xs.getD t d = u := by
  obtain ⟨hlt, rfl⟩ := Array.getElem?_eq_some_iff.1 h
  simp [Array.getD, hlt]

theorem Sim.arg (S : Sim w0 B0 M0 N μ e h a w) {o : Operand} {x : Arg} (ho : argOk o x = true) {v : V} (hv : x.val e = some v) :
    RV (Mut M0 μ h) w μ (shapes h) v (a.eval o) := by
  unfold argOk at ho
  split at ho
  · rename_i t n
    simp only [beq_iff_eq] at ho
    subst ho
    obtain ⟨u, h1, h2⟩ := S.env _ _ hv
    rw [show a.eval (.tmp t) = u from getD_of h1]
    exact h2
  · simp only [Arg.val, Option.some.injEq] at hv
    subst hv
    exact RV_cell.2 (constOk_sound ho _ _)
  · simp only [Arg.val, Option.some.injEq] at hv
    subst hv
    exact RV_cell.2 (RD.rowE _ _ _)
  · simp only [beq_iff_eq] at ho
    subst ho
    simp only [Arg.val, Option.some.injEq] at hv
    subst hv
    refine RV_cell.2 ?_
    have := RD.fn (M := Mut M0 μ h) (w := w) (by assumption) [] [] (fun _ _ => .nilFunc) (fun _ => .nilFunc) (by simp) (by simp) (by simp)
    exact this
  · cases ho

theorem Arg.cell_val {x : Arg} {c : C} (hx : x.cell e = some c) : x.val e = some (.v false [c]) := by
  unfold Arg.cell at hx
  split at hx
  · rename_i heq
    cases hx
    exact heq
  · cases hx
theorem Arg.dat_cell {x : Arg} {d : D} (hx : x.dat e = some d) : x.cell e = some (.d d) := by
  unfold Arg.dat at hx
  split at hx
  · rename_i heq
    cases hx
    exact heq
  · cases hx
theorem Arg.int_dat {x : Arg} {k : IntKind} {n : Int} (hx : x.int e = some (k, n)) : x.dat e = some (.int k n) := by
  unfold Arg.int at hx
  split at hx
  · rename_i heq
    cases hx
    exact heq
  · cases hx
theorem ikN_inj {k q : IntKind} (h : ikN k = ikN q) : k = q := by cases k <;> cases q <;> first | rfl | cases h
theorem Arg.intK_dat {x : Arg} {k : IntKind} {n : Int} (hx : x.intK e k = some n) : x.dat e = some (.int k n) := by
  unfold Arg.intK at hx
  split at hx
  · rename_i q m heq
    split at hx
    · rename_i hk
      cases hx
      have := ikN_inj (Nat.eq_of_beq_eq_true hk)
      subst this
      exact Arg.int_dat heq
    · cases hx
  · cases hx
theorem Arg.bool_dat {x : Arg} {b : Bool} (hx : x.bool e = some b) : x.dat e = some (.bool b) := by
  unfold Arg.bool at hx
  split at hx
  · rename_i heq
    cases hx
    exact heq
  · cases hx
theorem Arg.str_dat {x : Arg} {b : ByteArray} (hx : x.str e = some b) : x.dat e = some (.str b) := by
  unfold Arg.str at hx
  split at hx
  · rename_i heq
    cases hx
    exact heq
  · cases hx

theorem Sim.cell (S : Sim w0 B0 M0 N μ e h a w) {o : Operand} {x : Arg} (ho : argOk o x = true) {c : C} (hx : x.cell e = some c) :
    RC (Mut M0 μ h) w μ (shapes h) c (a.eval o) := RV_cell.1 (S.arg ho (Arg.cell_val hx))
theorem Sim.dat (S : Sim w0 B0 M0 N μ e h a w) {o : Operand} {x : Arg} (ho : argOk o x = true) {d : D} (hx : x.dat e = some d) :
    RD (Mut M0 μ h) w d (a.eval o) := S.cell ho (Arg.dat_cell hx)
theorem RD.int_eq {M : Nat → Prop} {w : World} {k : IntKind} {n : Int} {v : Value} (h : RD M w (.int k n) v) : v = .int k n := by cases h; rfl
theorem RD.bool_eq {M : Nat → Prop} {w : World} {b : Bool} {v : Value} (h : RD M w (.bool b) v) : v = .bool b := by cases h; rfl
theorem RD.str_eq {M : Nat → Prop} {w : World} {b : ByteArray} {v : Value} (h : RD M w (.str b) v) : v = .string b := by cases h; rfl
theorem Sim.int (S : Sim w0 B0 M0 N μ e h a w) {o : Operand} {x : Arg} (ho : argOk o x = true) {k : IntKind} {n : Int} (hx : x.int e = some (k, n)) : a.eval o = .int k n :=
  (S.dat ho (Arg.int_dat hx)).int_eq
theorem Sim.intK (S : Sim w0 B0 M0 N μ e h a w) {o : Operand} {x : Arg} (ho : argOk o x = true) {k : IntKind} {n : Int} (hx : x.intK e k = some n) : a.eval o = .int k n :=
  (S.dat ho (Arg.intK_dat hx)).int_eq
theorem Sim.bool (S : Sim w0 B0 M0 N μ e h a w) {o : Operand} {x : Arg} (ho : argOk o x = true) {b : Bool} (hx : x.bool e = some b) : a.eval o = .bool b :=
  (S.dat ho (Arg.bool_dat hx)).bool_eq
theorem Sim.str (S : Sim w0 B0 M0 N μ e h a w) {o : Operand} {x : Arg} (ho : argOk o x = true) {b : ByteArray} (hx : x.str e = some b) : a.eval o = .string b :=
  (S.dat ho (Arg.str_dat hx)).str_eq
end
end Go.Vi
namespace Go.Vi
open Go.RowKit
set_option linter.unusedVariables false

def fput (e : EnvF) (t : Nat) (v : V) : EnvF := fun s => if s = t then some v else e s
def fdel (e : EnvF) (t : Nat) : EnvF := fun s => if s = t then none else e s
def fputo (e : EnvF) : Option Nat → V → EnvF
  | some t, v => fput e t v
  | none, _ => e
def fdelo (e : EnvF) : Option Nat → EnvF
  | some t => fdel e t
  | none => e
def fnew (h : HeapF) (n : Nat) (objs : List Obj) : HeapF := fun id => if n ≤ id ∧ id < n + objs.length then objs[id - n]? else h id
def fset (h : HeapF) (i : Nat) (o : Obj) : HeapF := fun id => if id = i then some o else h id

theorem fnew_nil (h : HeapF) (n : Nat) : fnew h n [] = h := by
  funext id
  simp only [fnew, List.length_nil, Nat.add_zero]
  rw [if_neg (by omega)]

section
variable {w0 : World} {B0 M0 : Nat → Prop} {N : Nat} {μ μ' : Nat → Value} {e : EnvF} {h : HeapF} {a : Act} {w w' : World} {n : Nat} {objs : List Obj}

theorem fnew_old (hf : ∀ id, n ≤ id → id < n + objs.length → h id = none) {id : Nat} {o : Obj} (ho : h id = some o) : fnew h n objs id = some o := by
  unfold fnew
  by_cases hc : n ≤ id ∧ id < n + objs.length
  · rw [hf id hc.1 hc.2] at ho; cases ho
  · rw [if_neg hc]; exact ho
theorem fnew_inv {id : Nat} {o : Obj} (ho : fnew h n objs id = some o) : h id = some o ∨ ∃ j, id = n + j ∧ objs[j]? = some o := by
  unfold fnew at ho
  by_cases hc : n ≤ id ∧ id < n + objs.length
  · rw [if_pos hc] at ho
    exact .inr ⟨id - n, by omega, ho⟩
  · rw [if_neg hc] at ho
    exact .inl ho
theorem fnew_new {j : Nat} {o : Obj} (ho : objs[j]? = some o) : fnew h n objs (n + j) = some o := by
  have hj : j < objs.length := (List.getElem?_eq_some_iff.1 ho).1
  unfold fnew
  rw [if_pos ⟨by omega, by omega⟩, show n + j - n = j by omega]
  exact ho

/-- New objects in new blocks. -/
theorem Sim.new (S : Sim w0 B0 M0 N μ e h a w) (hf : ∀ id, n ≤ id → id < n + objs.length → h id = none) (hμ : ∀ id o, h id = some o → μ' id = μ id) (hb : Below w.heap.size w w')
    (hc : ∀ j o k, objs[j]? = some o → blkOf (μ' (n + j)) = some k → w.heap.size ≤ k ∧ k < w'.heap.size)
    (hd : ∀ i j o p k, objs[i]? = some o → objs[j]? = some p → blkOf (μ' (n + i)) = some k → blkOf (μ' (n + j)) = some k → i = j)
    (ho : ∀ j o, objs[j]? = some o → OOk (Mut M0 μ' (fnew h n objs)) w' μ' (shapes (fnew h n objs)) (μ' (n + j)) o) :
    Sim w0 B0 M0 N μ' e (fnew h n objs) a w' := by
  have hM : ∀ k, k < w.heap.size → Mut M0 μ' (fnew h n objs) k → Mut M0 μ h k := by
    rintro k hk (h1 | ⟨id, o, h1, h2⟩)
    · exact .inl h1
    · rcases fnew_inv h1 with h3 | ⟨j, rfl, h3⟩
      · exact .inr ⟨id, o, h3, by rw [← hμ id o h3]; exact h2⟩
      · exact absurd (hc j o k h3 h2).1 (by omega)
  have hA : Agree μ μ' (shapes h) (shapes (fnew h n objs)) := by
    intro id x hx
    unfold shapes at hx ⊢
    cases hi : h id with
    | none => simp [hi] at hx
    | some o =>
      rw [hi] at hx
      exact ⟨by rw [fnew_old hf hi]; exact hx, hμ id o hi⟩
  have hL : Leaves (Mut M0 μ h) w w' := Leaves.of_below hb
  have hblk : ∀ k, k < w.heap.size → w'.heap[k]? = w.heap[k]? := hb.block
  have hdef : ∀ D : Nat, w.heap[D]? = some (Go.Obj.deferred (some [])) → w'.heap[D]? = some (Go.Obj.deferred (some [])) := fun D hD => (hblk D (Array.getElem?_eq_some_iff.1 hD).1).trans hD
  refine ⟨S.tmps, S.defers.step hdef, fun t v hv => ?_, fun id o hi => ?_, ?_, ?_, S.old, hb.os.trans S.os, hb.tape.trans S.tape, hb.output.trans S.output, Nat.le_trans S.size hb.size, fun k hk hB => (hb.block k (Nat.lt_of_lt_of_le hk S.size)).trans (S.frame k hk hB)⟩
  · obtain ⟨u, h1, h2⟩ := S.env t v hv
    exact ⟨u, h1, h2.keep hL hM hA⟩
  · rcases fnew_inv hi with h1 | ⟨j, rfl, h1⟩
    · have h2 := S.heap id o h1
      rw [hμ id o h1]
      cases o with
      | blk cs =>
        obtain ⟨g, t, us, h3, h4, h5⟩ := h2
        refine ⟨g, t, us, h3, ?_, h5.mono fun _ _ hr => hr.keep hL hM hA⟩
        rw [hblk g (Array.getElem?_eq_some_iff.1 h4).1]
        exact h4
      | arr ty sz es =>
        obtain ⟨h3, xs, h4, h5⟩ := h2
        refine ⟨h3, xs, ?_, h5.mono fun _ _ hr => hr.step hL hM⟩
        exact h4.kept (row := none) ⟨hb.os, hb.tape, hb.output, hb.size, fun k hk _ => hb.block k hk⟩ (by cases (μ id).ownBlock <;> simp)
      | map sz es =>
        obtain ⟨r, ents, clock, h3, h4, h5⟩ := h2
        exact ⟨r, ents, clock, h3, (hblk r (Array.getElem?_eq_some_iff.1 h4).1).trans h4, h5.step fun _ _ hr => hr.step hL hM⟩
      | saved tm se => exact ⟨h2.1, h2.2.1.imp fun _ hd => hd.step hdef, fun t x hx => let ⟨u, h3, h4⟩ := h2.2.2 t x hx; ⟨u, h3, h4.keep hL hM hA⟩⟩
      | lp l ρ st p => exact ⟨h2.1, (hblk l (Array.getElem?_eq_some_iff.1 h2.2).1).trans h2.2⟩
    · exact ho j o h1
  · intro i j o p k hi hj hbi hbj
    rcases fnew_inv hi with h1 | ⟨i', rfl, h1⟩ <;> rcases fnew_inv hj with h2 | ⟨j', rfl, h2⟩
    · rw [hμ _ _ h1] at hbi
      rw [hμ _ _ h2] at hbj
      exact S.inj i j o p k h1 h2 hbi hbj
    · rw [hμ _ _ h1] at hbi
      exact absurd (hc j' p k h2 hbj).1 (by have := (S.own i o k h1 hbi).2.1; omega)
    · rw [hμ _ _ h2] at hbj
      exact absurd (hc i' o k h1 hbi).1 (by have := (S.own j p k h2 hbj).2.1; omega)
    · rw [hd i' j' o p k h1 h2 hbi hbj]
  · intro id o k hi hbk
    rcases fnew_inv hi with h1 | ⟨j, rfl, h1⟩
    · rw [hμ _ _ h1] at hbk
      obtain ⟨h2, h3, h4⟩ := S.own id o k h1 hbk
      exact ⟨h2, Nat.lt_of_lt_of_le h3 hb.size, h4⟩
    · obtain ⟨h2, h3⟩ := hc j o k h1 hbk
      exact ⟨.inr (Nat.le_trans S.size h2), h3, fun h4 => by have := S.old k h4; have := S.size; omega⟩

theorem put_get {a : Act} {t : Nat} {u : Value} (s : Nat) (h : t < a.tmps.size) : (a.put (some t) u).tmps[s]? = if s = t then some u else a.tmps[s]? := by
  simp only [Act.put, Array.getElem?_setIfInBounds]
  by_cases hs : t = s
  · subst hs; simp [h]
  · rw [if_neg hs, if_neg (fun e => hs e.symm)]

def dstOk (N : Nat) : Option Nat → Bool
  | some t => decide (t < N)
  | none => true

theorem Sim.put (S : Sim w0 B0 M0 N μ e h a w) {dst : Option Nat} {v : V} {u : Value} (hd : dstOk N dst = true) (hv : RV (Mut M0 μ h) w μ (shapes h) v u) :
    Sim w0 B0 M0 N μ (fputo e dst v) h (a.put dst u) w := by
  cases dst with
  | none => exact S
  | some t =>
    have ht : t < a.tmps.size := by rw [S.tmps]; simpa [dstOk] using hd
    refine ⟨by simp [Act.put, S.tmps], S.defers, fun s x hx => ?_, S.heap, S.inj, S.own, S.old, S.os, S.tape, S.output, S.size, S.frame⟩
    rw [put_get s ht]
    by_cases hs : s = t
    · simp only [fputo, fput, hs, if_true, Option.some.injEq] at hx ⊢
      subst hx
      exact ⟨u, rfl, hv⟩
    · simp only [fputo, fput, hs, if_false] at hx ⊢
      exact S.env s x hx
theorem Sim.del (S : Sim w0 B0 M0 N μ e h a w) {dst : Option Nat} {u : Value} (hd : dstOk N dst = true) : Sim w0 B0 M0 N μ (fdelo e dst) h (a.put dst u) w := by
  cases dst with
  | none => exact S
  | some t =>
    have ht : t < a.tmps.size := by rw [S.tmps]; simpa [dstOk] using hd
    refine ⟨by simp [Act.put, S.tmps], S.defers, fun s x hx => ?_, S.heap, S.inj, S.own, S.old, S.os, S.tape, S.output, S.size, S.frame⟩
    rw [put_get s ht]
    by_cases hs : s = t
    · simp [fdelo, fdel, hs] at hx
    · simp only [fdelo, fdel, hs, if_false] at hx ⊢
      exact S.env s x hx
/-- Less may be said. -/
theorem Sim.less (S : Sim w0 B0 M0 N μ e h a w) {e' : EnvF} (he : ∀ t v, e' t = some v → e t = some v) : Sim w0 B0 M0 N μ e' h a w :=
  ⟨S.tmps, S.defers, fun t v hv => S.env t v (he t v hv), S.heap, S.inj, S.own, S.old, S.os, S.tape, S.output, S.size, S.frame⟩
/-- A draw. -/
theorem Sim.drew (S : Sim w0 B0 M0 N μ e h a w) : Sim w0 B0 M0 N μ e h a { w with drawn := w.drawn + 1 } := by
  have hb : Below w.heap.size w { w with drawn := w.drawn + 1 } := ⟨rfl, rfl, rfl, Nat.le_refl _, fun _ _ => rfl⟩
  have := S.new (n := 0) (objs := []) (μ' := μ) (fun _ _ h => by simp at h) (fun _ _ _ => rfl) hb (by simp) (by simp) (by simp)
  rwa [fnew_nil] at this
/-- Nothing of what is told turns. -/
theorem Sim.below (S : Sim w0 B0 M0 N μ e h a w) (hb : Below w.heap.size w w') : Sim w0 B0 M0 N μ e h a w' := by
  have := S.new (n := 0) (objs := []) (μ' := μ) (fun _ _ h => by simp at h) (fun _ _ _ => rfl) hb (by simp) (by simp) (by simp)
  rwa [fnew_nil] at this
end

/-- What an operation that changes no local object comes to. -/
def Comes1 (P : Program) (w0 : World) (B0 M0 : Nat → Prop) (N : Nat) (μ : Nat → Value) (e : EnvF) (h : HeapF) (a : Act) (w : World) (o : Go.Oper) (n : Nat) (v : V) (objs : List Obj) : Prop :=
  ∃ u w' μ', (execOp a.eval o).run P w = .ok (.value u) w' ∧ (∀ id o, h id = some o → μ' id = μ id) ∧ Sim w0 B0 M0 N μ' e (fnew h n objs) a w' ∧ RV (Mut M0 μ' (fnew h n objs)) w' μ' (shapes (fnew h n objs)) v u

section
variable {P : Program} {w0 : World} {B0 M0 : Nat → Prop} {N : Nat} {μ : Nat → Value} {e : EnvF} {h : HeapF} {a : Act} {w : World} {n : Nat} {o : Go.Oper} {v : V}
theorem Comes1.pure (S : Sim w0 B0 M0 N μ e h a w) {u : Value} (hr : (execOp a.eval o).run P w = .ok (.value u) w) (hv : RV (Mut M0 μ h) w μ (shapes h) v u) :
    Comes1 P w0 B0 M0 N μ e h a w o n v [] := ⟨u, w, μ, hr, fun _ _ _ => rfl, by rw [fnew_nil]; exact S, by rw [fnew_nil]; exact hv⟩
theorem Comes1.data (S : Sim w0 B0 M0 N μ e h a w) {u : Value} {w' : World} {d : D} (hb : Below w.heap.size w w') (hr : (execOp a.eval o).run P w = .ok (.value u) w') (hd : RD (Mut M0 μ h) w' d u) :
    Comes1 P w0 B0 M0 N μ e h a w o n (.v false [.d d]) [] := ⟨u, w', μ, hr, fun _ _ _ => rfl, by rw [fnew_nil]; exact S.below hb, by rw [fnew_nil]; exact RV_cell.2 hd⟩
end
end Go.Vi
namespace Go.Vi
open Go.RowKit
set_option linter.unusedVariables false
set_option linter.unusedSimpArgs false

def sizeIs (P : Program) (t : TypeId) (n : Nat) : Bool := match P.info? t with
  | some i => i.size == n
  | none => false
def aggIs (P : Program) (t : TypeId) (b : Bool) : Bool := match P.underlying t with
  | some (.struct _) => b
  | some (.array _ _) => b
  | some _ => !b
  | none => false
def eqOp : BinOp → BinOp → Bool
  | .add, .add | .sub, .sub | .mul, .mul | .quo, .quo | .rem, .rem | .lss, .lss | .leq, .leq | .gtr, .gtr | .geq, .geq | .eql, .eql | .neq, .neq => true
  | _, _ => false
theorem eqOp_eq {a b : BinOp} (h : eqOp a b = true) : a = b := by cases a <;> cases b <;> first | rfl | cases h

section
variable {P : Program} {w0 : World} {B0 M0 : Nat → Prop} {N : Nat} {μ : Nat → Value} {e : EnvF} {h : HeapF} {a : Act} {w : World} {n : Nat} {v : V} {objs : List Obj}

theorem sizeIs_run {t : TypeId} {k : Nat} (hs : sizeIs P t k = true) (w : World) : (sizeOf t).run P w = .ok k w := by
  unfold sizeIs at hs
  split at hs
  · rename_i i hi
    simp only [beq_iff_eq] at hs
    subst hs
    simp [sizeOf, typeInfo, hi]
  · cases hs
theorem aggIs_run {t : TypeId} {b : Bool} (hs : aggIs P t b = true) (w : World) : (isAgg t).run P w = .ok b w := by
  unfold aggIs at hs
  split at hs <;> simp_all [isAgg, underlying]

theorem mv_sound (S : Sim w0 B0 M0 N μ e h a w) {o : Go.Oper} {x : Operand} {y : Arg} (ho : o.op = .move x ∨ o.op = .assign x) (hc : argOk x y = true)
    (hx : opF prims e h n (.mv y) = some (v, objs)) : Comes1 P w0 B0 M0 N μ e h a w o n v objs := by
  simp only [opF] at hx
  split at hx
  · rename_i u hu
    cases hx
    refine .pure S (u := a.eval x) ?_ (S.arg hc hu)
    rcases ho with ho | ho <;> simp [execOp, ho]
  · cases hx

theorem pick_sound (S : Sim w0 B0 M0 N μ e h a w) {o : Go.Oper} {c x y : Operand} {c' x' y' : Arg} (ho : o.op = .pick c x y) (h1 : argOk c c' = true) (h2 : argOk x x' = true) (h3 : argOk y y' = true)
    (hx : opF prims e h n (.pick c' x' y') = some (v, objs)) : Comes1 P w0 B0 M0 N μ e h a w o n v objs := by
  simp only [opF] at hx
  split at hx
  · rename_i t ht
    have hb := S.bool h1 ht
    cases t <;> simp only at hx <;> split at hx
    · rename_i u hu
      cases hx
      exact .pure S (u := a.eval y) (by simp [execOp, ho, hb, asBool]) (S.arg h3 hu)
    · cases hx
    · rename_i u hu
      cases hx
      exact .pure S (u := a.eval x) (by simp [execOp, ho, hb, asBool]) (S.arg h2 hu)
    · cases hx
  · cases hx

theorem arith_sound (S : Sim w0 B0 M0 N μ e h a w) {o : Go.Oper} {op op' : BinOp} {t t' : TypeId} {x y : Operand} {k : IntKind} {x' y' : Arg} (ho : o.op = .binOp op t x y t') (h1 : eqOp op op' = true) (h2 : argOk x x' = true) (h3 : argOk y y' = true)
    (hx : opF prims e h n (.arith op' k x' y') = some (v, objs)) : Comes1 P w0 B0 M0 N μ e h a w o n v objs := by
  have := eqOp_eq h1
  subst this
  simp only [opF] at hx
  split at hx
  · rename_i p q hp hq
    have ep := S.intK h2 hp
    have eq_ := S.intK h3 hq
    unfold liftI at hx
    split at hx
    · rename_i r hr
      cases hx
      refine .pure S (u := .int k r) ?_ (RV_cell.2 (.int k r))
      cases op <;> simp [Prim.arith, prims] at hr <;> first | (subst hr; simp [execOp, ho, eqGuard, binOp, ep, eq_, Go.Op.intArith]; done) | (obtain ⟨h0, rfl⟩ := hr; simp [execOp, ho, eqGuard, binOp, ep, eq_, Go.Op.intDiv, h0])
    · cases hx
  · cases hx

theorem cmp_sound (S : Sim w0 B0 M0 N μ e h a w) {o : Go.Oper} {op op' : BinOp} {t t' : TypeId} {x y : Operand} {x' y' : Arg} (ho : o.op = .binOp op t x y t') (h1 : eqOp op op' = true) (h2 : argOk x x' = true) (h3 : argOk y y' = true)
    (hx : opF prims e h n (.cmp op' x' y') = some (v, objs)) : Comes1 P w0 B0 M0 N μ e h a w o n v objs := by
  have := eqOp_eq h1
  subst this
  simp only [opF] at hx
  split at hx
  · rename_i k p hp
    split at hx
    · rename_i q hq
      have ep := S.int h2 hp
      have eq_ := S.intK h3 hq
      unfold liftB at hx
      split at hx
      · rename_i r hr
        cases hx
        refine .pure S (u := .bool r) ?_ (RV_cell.2 (.bool r))
        cases op <;> simp only [Prim.cmp, prims, Option.some.injEq, reduceCtorEq] at hr <;> (subst hr; simp [execOp, ho, eqGuard, binOp, ep, eq_, Go.Op.intCmp])
        rfl
      · cases hx
    · cases hx
  · cases hx

theorem strOp_sound (S : Sim w0 B0 M0 N μ e h a w) {o : Go.Oper} {op op' : BinOp} {t t' : TypeId} {x y : Operand} {x' y' : Arg} (ho : o.op = .binOp op t x y t') (h1 : eqOp op op' = true) (h2 : argOk x x' = true) (h3 : argOk y y' = true)
    (hx : opF prims e h n (.strOp op' x' y') = some (v, objs)) : Comes1 P w0 B0 M0 N μ e h a w o n v objs := by
  have := eqOp_eq h1
  subst this
  simp only [opF] at hx
  split at hx
  · rename_i p q hp hq
    have ep := S.str h2 hp
    have eq_ := S.str h3 hq
    unfold liftD at hx
    split at hx
    · rename_i r hr
      cases hx
      cases op <;> simp only [Prim.strOp, prims, Option.some.injEq, reduceCtorEq] at hr
      case add =>
        split at hr
        · rename_i s hs
          split at hs
          · rename_i hl
            cases hr
            cases hs
            refine .pure S (u := .string (p ++ q)) ?_ (RV_cell.2 (.str _))
            simp [execOp, ho, eqGuard, binOp, ep, eq_, Go.Op.stringOp]
            omega
          · cases hs
        · cases hr
      all_goals
        subst hr
        exact .pure S (u := .bool _) (by simp [execOp, ho, eqGuard, binOp, ep, eq_, Go.Op.stringOp]) (RV_cell.2 (.bool _))
    · cases hx
  · cases hx

theorem equal_bool {t : TypeId} (ht : P.underlying t = some .bool) (p q : Bool) (w : World) : (Go.Op.equal t (.bool p) (.bool q)).run P w = .ok (p == q) w := by
  have : ∀ d, (Go.Op.equalIn (d + 1) t (.bool p) (.bool q)).run P w = .ok (p == q) w := fun d => by simp [Go.Op.equalIn, run_underlying ht]
  exact this 9999
theorem equal_nil {t : TypeId} {ms : Array (String × TypeId)} (ht : P.underlying t = some (.interface ms)) (w : World) : (Go.Op.equal t .nilIface .nilIface).run P w = .ok true w := by
  have : ∀ d, (Go.Op.equalIn (d + 1) t .nilIface .nilIface).run P w = .ok true w := fun d => by simp [Go.Op.equalIn, run_underlying ht]
  exact this 9999
theorem equal_some {t ty : TypeId} {u : Value} {ms : Array (String × TypeId)} (ht : P.underlying t = some (.interface ms)) (w : World) : (Go.Op.equal t (.iface ty u) .nilIface).run P w = .ok false w := by
  have : ∀ d, (Go.Op.equalIn (d + 1) t (.iface ty u) .nilIface).run P w = .ok false w := fun d => by simp [Go.Op.equalIn, run_underlying ht]
  exact this 9999

theorem boolEq_sound (S : Sim w0 B0 M0 N μ e h a w) {o : Go.Oper} {neq : Bool} {op : BinOp} {t t' : TypeId} {x y : Operand} {x' y' : Arg} (ho : o.op = .binOp op t x y t') (hop : op = match neq with | true => .neq | false => .eql) (ht : P.underlying t = some .bool) (h2 : argOk x x' = true) (h3 : argOk y y' = true)
    (hx : opF prims e h n (.boolEq neq x' y') = some (v, objs)) : Comes1 P w0 B0 M0 N μ e h a w o n v objs := by
  simp only [opF] at hx
  split at hx
  · rename_i p q hp hq
    have ep := S.bool h2 hp
    have eq_ := S.bool h3 hq
    cases hx
    cases neq <;> simp only at hop <;> subst hop
    · refine .pure S (u := .bool (p == q)) ?_ (RV_cell.2 (.bool _))
      have hb : binOp .eql t (.bool p) (.bool q) = (do pure (.bool (← Go.Op.equal t (.bool p) (.bool q)))) := rfl
      simp [execOp, ho, eqGuard, ep, eq_, hb, equal_bool ht]
    · refine .pure S (u := .bool (!(p == q))) ?_ (RV_cell.2 (.bool _))
      have hb : binOp .neq t (.bool p) (.bool q) = (do pure (.bool (!(← Go.Op.equal t (.bool p) (.bool q))))) := rfl
      simp [execOp, ho, eqGuard, ep, eq_, hb, equal_bool ht]
  · cases hx

theorem not_sound (S : Sim w0 B0 M0 N μ e h a w) {o : Go.Oper} {t : TypeId} {x : Operand} {x' : Arg} (ho : o.op = .unOp .not t x) (h2 : argOk x x' = true)
    (hx : opF prims e h n (.not x') = some (v, objs)) : Comes1 P w0 B0 M0 N μ e h a w o n v objs := by
  simp only [opF] at hx
  split at hx
  · rename_i p hp
    have ep := S.bool h2 hp
    cases hx
    exact .pure S (u := .bool (!p)) (by simp [execOp, ho, ep, Go.Op.unary]) (RV_cell.2 (.bool _))
  · cases hx

theorem neg_sound (S : Sim w0 B0 M0 N μ e h a w) {o : Go.Oper} {t : TypeId} {k : IntKind} {x : Operand} {x' : Arg} (ho : o.op = .unOp .neg t x) (h2 : argOk x x' = true)
    (hx : opF prims e h n (.neg k x') = some (v, objs)) : Comes1 P w0 B0 M0 N μ e h a w o n v objs := by
  simp only [opF] at hx
  split at hx
  · rename_i p hp
    have ep := S.intK h2 hp
    cases hx
    exact .pure S (u := .int k (k.wrap (0 - p))) (by simp [execOp, ho, ep, Go.Op.unary, Go.Op.intArith]) (RV_cell.2 (.int _ _))
  · cases hx

theorem RD.err0_eq {M : Nat → Prop} {w : World} {v : Value} (h : RD M w .err0 v) : v = .nilIface := by cases h; rfl
theorem RD.errX_eq {M : Nat → Prop} {w : World} {v : Value} (h : RD M w .errX v) : ∃ t u, v = .iface t u := by cases h; exact ⟨_, _, rfl⟩
theorem errEq_sound (S : Sim w0 B0 M0 N μ e h a w) {o : Go.Oper} {neq : Bool} {op : BinOp} {t t' : TypeId} {ms : Array (String × TypeId)} {x : Operand} {x' : Arg} (ho : o.op = .binOp op t x (.const .nilIface) t') (hop : op = match neq with | true => .neq | false => .eql)
    (ht : P.underlying t = some (.interface ms)) (h2 : argOk x x' = true)
    (hx : opF prims e h n (.errEq neq x') = some (v, objs)) : Comes1 P w0 B0 M0 N μ e h a w o n v objs := by
  have hb1 : ∀ p q, binOp .eql t .nilIface .nilIface = (do pure (.bool (← Go.Op.equal t .nilIface .nilIface))) ∧ binOp .neq t .nilIface .nilIface = (do pure (.bool (!(← Go.Op.equal t .nilIface .nilIface)))) ∧
    binOp .eql t (.iface p q) .nilIface = (do pure (.bool (← Go.Op.equal t (.iface p q) .nilIface))) ∧ binOp .neq t (.iface p q) .nilIface = (do pure (.bool (!(← Go.Op.equal t (.iface p q) .nilIface)))) := fun _ _ => ⟨rfl, rfl, rfl, rfl⟩
  simp only [opF] at hx
  split at hx
  · rename_i hp
    have ep := (S.dat h2 hp).err0_eq
    cases hx
    cases neq <;> simp only at hop <;> subst hop
    · exact .pure S (u := .bool true) (by simp [execOp, ho, eqGuard, ep, show a.eval (.const .nilIface) = .nilIface from rfl, (hb1 0 .nilIface).1, equal_nil ht]) (RV_cell.2 (.bool _))
    · exact .pure S (u := .bool false) (by simp [execOp, ho, eqGuard, ep, show a.eval (.const .nilIface) = .nilIface from rfl, (hb1 0 .nilIface).2.1, equal_nil ht]) (RV_cell.2 (.bool _))
  · rename_i hp
    obtain ⟨ty, u, ep⟩ := (S.dat h2 hp).errX_eq
    cases hx
    cases neq <;> simp only at hop <;> subst hop
    · exact .pure S (u := .bool false) (by simp [execOp, ho, eqGuard, ep, show a.eval (.const .nilIface) = .nilIface from rfl, (hb1 ty u).2.2.1, equal_some ht]) (RV_cell.2 (.bool _))
    · exact .pure S (u := .bool true) (by simp [execOp, ho, eqGuard, ep, show a.eval (.const .nilIface) = .nilIface from rfl, (hb1 ty u).2.2.2, equal_some ht]) (RV_cell.2 (.bool _))
  · cases hx

theorem extract_sound (S : Sim w0 B0 M0 N μ e h a w) {o : Go.Oper} {i : Nat} {x : Operand} {x' : Arg} (ho : o.op = .extract x i) (h2 : argOk x x' = true)
    (hx : opF prims e h n (.extract x' i) = some (v, objs)) : Comes1 P w0 B0 M0 N μ e h a w o n v objs := by
  simp only [opF] at hx
  split at hx
  · rename_i vs hv
    split at hx
    · rename_i b cs hi
      cases hx
      obtain ⟨us, h3, h4⟩ := S.arg h2 hv
      obtain ⟨u, h5, h6⟩ := h4.get i _ hi
      exact .pure S (u := u) (by simp [execOp, ho, h3, Instr.extract, h5]) h6
    · cases hx
  · cases hx

theorem lenStr_sound (S : Sim w0 B0 M0 N μ e h a w) {o : Go.Oper} {t : TypeId} {x : Operand} {x' : Arg} (ho : o.op = .call { callee := .builtin .len, args := #[x], argTypes := #[t] }) (ht : P.underlying t = some .string) (h2 : argOk x x' = true)
    (hx : opF prims e h n (.lenStr x') = some (v, objs)) : Comes1 P w0 B0 M0 N μ e h a w o n v objs := by
  simp only [opF] at hx
  split at hx
  · rename_i s hs
    have ep := S.str h2 hs
    cases hx
    exact .pure S (u := .int .i64 s.size) (by simp [execOp, ho, ep, resolve, invoke, builtin, Builtin.len_, run_underlying ht, goInt]) (RV_cell.2 (.int _ _))
  · cases hx
end
end Go.Vi
namespace Go.Vi
open Go.RowKit
set_option linter.unusedVariables false
set_option linter.unusedSimpArgs false

theorem takeD_eq : ∀ {cs : List D} {n : Nat} {ds : List D}, takeD cs n = some ds → ds = cs.take n ∧ ds.length = n
  | cs, 0, ds, h => by simp [takeD] at h; simp [← h]
  | [], n + 1, ds, h => by simp [takeD] at h
  | c :: cs, n + 1, ds, h => by
    simp only [takeD] at h
    split at h
    · rename_i r hr
      cases h
      obtain ⟨h1, h2⟩ := takeD_eq hr
      exact ⟨by simp [← h1], by simp [h2]⟩
    · cases h
theorem dropD_eq : ∀ (cs : List D) (n : Nat), dropD cs n = cs.drop n
  | cs, 0 => by simp [dropD]
  | [], n + 1 => by simp [dropD]
  | c :: cs, n + 1 => by simp [dropD, dropD_eq cs n]
theorem takeL_eq : ∀ {cs : List C} {n : Nat} {ds : List C}, takeL cs n = some ds → ds = cs.take n ∧ ds.length = n
  | cs, 0, ds, h => by simp [takeL] at h; simp [← h]
  | [], n + 1, ds, h => by simp [takeL] at h
  | c :: cs, n + 1, ds, h => by
    simp only [takeL] at h
    split at h
    · rename_i r hr
      cases h
      obtain ⟨h1, h2⟩ := takeL_eq hr
      exact ⟨by simp [← h1], by simp [h2]⟩
    · cases h
theorem dropL_eq : ∀ (cs : List C) (n : Nat), dropL cs n = cs.drop n
  | cs, 0 => by simp [dropL]
  | [], n + 1 => by simp [dropL]
  | c :: cs, n + 1 => by simp [dropL, dropL_eq cs n]
theorem cutL_eq {cs : List C} {off n : Nat} {r : List C} (h : cutL cs off n = some r) : r = (cs.drop off).take n ∧ r.length = n := by
  unfold cutL at h
  rw [dropL_eq] at h
  exact takeL_eq h
theorem ofData_eq : ∀ ds : List D, ofData ds = ds.map C.d
  | [] => rfl
  | d :: r => by simp [ofData, ofData_eq r]

theorem flatten_get {α : Type} {sz : Nat} : ∀ {es : List (List α)} {i : Nat} {cs : List α}, (∀ x ∈ es, x.length = sz) → es[i]? = some cs → ∀ j, j < sz → es.flatten[i * sz + j]? = cs[j]?
  | [], i, cs, _, h, _, _ => by simp at h
  | x :: es, 0, cs, hs, h, j, hj => by
    simp at h
    subst h
    have := hs x List.mem_cons_self
    simp [List.getElem?_append, this, hj]
  | x :: es, i + 1, cs, hs, h, j, hj => by
    have hx := hs x List.mem_cons_self
    have := flatten_get (es := es) (i := i) (cs := cs) (fun y hy => hs y (List.mem_cons_of_mem _ hy)) (by simpa using h) j hj
    rw [List.flatten_cons, List.getElem?_append_right (by rw [hx, Nat.succ_mul]; omega), hx, ← this]
    congr 1
    rw [Nat.succ_mul]
    omega
theorem flatten_len {α : Type} {sz : Nat} : ∀ {es : List (List α)}, (∀ x ∈ es, x.length = sz) → es.flatten.length = es.length * sz
  | [], _ => by simp
  | x :: es, hs => by
    rw [List.flatten_cons, List.length_append, hs x List.mem_cons_self, flatten_len fun y hy => hs y (List.mem_cons_of_mem _ hy), List.length_cons, Nat.succ_mul, Nat.add_comm]

section
variable {P : Program} {w0 : World} {B0 M0 : Nat → Prop} {N : Nat} {μ : Nat → Value} {e : EnvF} {h : HeapF} {a : Act} {w : World} {n : Nat} {v : V} {objs : List Obj}

theorem nth_eq {es : List (List D)} {i : Int} {cs : List D} (h : prims.nth es i = some cs) : 0 ≤ i ∧ es[i.toNat]? = some cs := by
  simp only [prims] at h
  split at h
  · rename_i h0
    exact ⟨h0, h⟩
  · cases h

theorem Sim.heapAt (S : Sim w0 B0 M0 N μ e h a w) {id : Nat} {o : Obj} (ho : h id = some o) : shapes h id = some o.sh := by simp [shapes, ho]

/-- What is read at a pointer is what lies there. -/
theorem readAt_cells (S : Sim w0 B0 M0 N μ e h a w) {c : C} {u : Value} {k : Nat} {cs : List C} (hc : RC (Mut M0 μ h) w μ (shapes h) c u) (hr : readAt prims h c k = some cs) :
    ∃ ad us, u = .pointer (some ad) ∧ All2 (RC (Mut M0 μ h) w μ (shapes h)) cs us ∧ us.length = k ∧ ∀ j x, us[j]? = some x → w.cell? (ad.add j) = some x := by
  unfold readAt at hr
  split at hr
  · rename_i ds i
    split at hr
    · rename_i rs hrs
      cases hr
      obtain ⟨h1, h2⟩ := takeD_eq hrs
      rw [dropD_eq] at h1
      cases hc with
      | ro _ _ ad us hb hm hcell hd =>
        have hlen : i + k ≤ ds.length ∨ k = 0 := by
          have := congrArg List.length h1
          rw [h2, List.length_take, List.length_drop] at this
          omega
        refine ⟨_, (List.range k).map (fun j => us (i + j)), rfl, ?_, by simp, fun j x hx => ?_⟩
        · rw [ofData_eq, h1]
          refine (All2.map_left _).2 (All2.of_get (by rw [← h1, h2]; simp) fun j d x hj hx => ?_)
          have hjk : j < k := by simpa using (List.getElem?_eq_some_iff.1 hx).1
          rw [List.getElem?_take, if_pos hjk, List.getElem?_drop] at hj
          simp [hjk] at hx
          subst hx
          exact hd _ _ hj
        · have hjk : j < k := by simpa using (List.getElem?_eq_some_iff.1 hx).1
          simp [hjk] at hx
          subst hx
          rw [add_add]
          exact hcell _ (by omega)
    · cases hr
  · rename_i id off
    split at hr
    · rename_i bs hb
      obtain ⟨h1, h2⟩ := cutL_eq hr
      obtain ⟨_, g, hg, rfl⟩ := hc
      obtain ⟨g', t, us, hg', hh, hall⟩ := S.heap id _ hb
      rw [hg] at hg'
      cases hg'
      refine ⟨_, (us.toList.drop off).take k, rfl, by rw [h1]; exact (hall.drop off).take k, ?_, fun j x hx => ?_⟩
      · rw [← ((hall.drop off).take k).length, ← h1, h2]
      · have hjk : j < k := by
          have := (List.getElem?_eq_some_iff.1 hx).1
          rw [List.length_take] at this
          omega
        rw [List.getElem?_take, if_pos hjk, List.getElem?_drop] at hx
        have hadd : (⟨g, off, none⟩ : Addr).add j = ⟨g, off + j, none⟩ := by unfold Addr.add; split <;> simp_all
        rw [hadd]
        simp only [World.cell?, hh]
        simpa using hx
    · cases hr
  · rename_i id i off
    split at hr
    · rename_i ty sz es hb
      split at hr
      · rename_i bs hbs
        split at hr
        · rename_i ds hds
          cases hr
          obtain ⟨h1, h2⟩ := takeD_eq hds
          rw [dropD_eq] at h1
          obtain ⟨h0, hi⟩ := nth_eq hbs
          obtain ⟨sz', len, g, cap, hsh, _, hlt, hμ, rfl⟩ := hc
          rw [S.heapAt hb] at hsh
          cases hsh
          obtain ⟨hs, xs, hown, hall⟩ := S.heap id _ hb
          rw [hμ] at hown
          have hbl : bs.length = sz := hs bs (List.mem_of_getElem? hi)
          have hcl := hown.cells (g := g) rfl
          have hoff : off + k ≤ sz ∨ k = 0 := by
            have := congrArg List.length h1
            rw [h2, List.length_take, List.length_drop] at this
            omega
          have hxl : xs.length = es.length * sz := hown.1
          have hil : i.toNat < es.length := (List.getElem?_eq_some_iff.1 hi).1
          have hle : i.toNat * sz + sz ≤ es.length * sz := by rw [← Nat.succ_mul]; exact Nat.mul_le_mul_right _ hil
          refine ⟨_, (xs.drop (i.toNat * sz + off)).take k, rfl, ?_, ?_, fun j x hx => ?_⟩
          · rw [ofData_eq, h1]
            refine (All2.map_left _).2 (All2.of_get ?_ fun j d x hj hx => ?_)
            · rw [← h1, h2, List.length_take, List.length_drop]
              omega
            · have hjk : j < k := by
                have := (List.getElem?_eq_some_iff.1 hj).1
                rw [List.length_take] at this
                omega
              rw [List.getElem?_take, if_pos hjk, List.getElem?_drop] at hj hx
              have hf := flatten_get hs hi (off + j) (by omega)
              rw [hj] at hf
              obtain ⟨y, hy1, hy2⟩ := hall.get _ _ (show es.flatten[i.toNat * sz + off + j]? = some d by rw [Nat.add_assoc]; exact hf)
              rw [hx] at hy1
              cases hy1
              exact hy2
          · rw [List.length_take, List.length_drop]
            omega
          · have hjk : j < k := by
              have := (List.getElem?_eq_some_iff.1 hx).1
              rw [List.length_take] at this
              omega
            rw [List.getElem?_take, if_pos hjk, List.getElem?_drop] at hx
            have hc2 := hcl _ _ hx
            have hadd : ∀ q, (⟨g, 0, none⟩ : Addr).add q = ⟨g, q, none⟩ := fun q => by unfold Addr.add; split <;> simp_all
            have hadd' : (⟨g, i.toNat * sz + off, none⟩ : Addr).add j = ⟨g, i.toNat * sz + off + j, none⟩ := by unfold Addr.add; split <;> simp_all
            rw [hadd] at hc2
            rw [hadd']
            exact hc2
        · cases hr
      · cases hr
    · cases hr
  · cases hr

theorem okLen_of {b : Bool} {k : Nat} (h : b = true ∨ k = 1) : okLen b k := by cases b <;> simp_all [okLen]

/-- A load, as a run. -/
theorem run_loadVar_cells {t : TypeId} {agg : Bool} {k : Nat} {ad : Addr} {us : List Value} (ha : aggIs P t agg = true) (hs : sizeIs P t k = true) (h1 : agg = true ∨ k = 1) (hl : us.length = k)
    (hc : ∀ j x, us[j]? = some x → w.cell? (ad.add j) = some x) : (loadVar t ad).run P w = .ok (mkV agg us) w := by
  subst hl
  cases agg with
  | true => simp [loadVar, aggIs_run ha, sizeIs_run hs, run_loadCells_list w ad us hc, mkV]
  | false =>
    match us, h1 with
    | [u], _ =>
      have := hc 0 u rfl
      simp only [Addr.add, if_true] at this
      simp [loadVar, aggIs_run ha, this, mkV]
    | [], .inr h => simp at h
    | _ :: _ :: _, .inr h => simp at h
    | _, .inl h => cases h

theorem load_sound (S : Sim w0 B0 M0 N μ e h a w) {o : Go.Oper} {t : TypeId} {agg : Bool} {k : Nat} {x : Operand} {x' : Arg} (ho : o.op = .load t x) (ha : aggIs P t agg = true) (hs : sizeIs P t k = true) (h1 : agg = true ∨ k = 1) (h2 : argOk x x' = true)
    (hx : opF prims e h n (.load agg k x') = some (v, objs)) : Comes1 P w0 B0 M0 N μ e h a w o n v objs := by
  simp only [opF] at hx
  split at hx
  · rename_i c hc
    split at hx
    · rename_i cs hcs
      cases hx
      obtain ⟨ad, us, hu, hall, hl, hcell⟩ := readAt_cells S (S.cell h2 hc) hcs
      refine .pure S (u := mkV agg us) ?_ ⟨us, hall, okLen_of (by rw [hl]; exact h1), rfl⟩
      simp [execOp, ho, Instr.loadAt, hu, Instr.sureAddr, run_loadVar_cells ha hs h1 hl hcell]
    · cases hx
  · cases hx
end
end Go.Vi
