/- The abstract machine over the translated code, and its soundness: part A. -/
import GoSem.Core.Code
import GoSem.Core.Program
import GoSem.Core.View
import GoSem.Core.Region
import GoSem.Core.Layout
import Derived.Deep.MidRow
import Derived.Deep.AppendSrc
import Derived.Laws.MakeOwn
import Derived.Below
import Derived.WalkKit
import Derived.WalkLawsBesides
import Derived.DeepKeys
/- An abstract machine over the translated code: deterministic, without tape and capacities. Definitions. -/
namespace Go.Proofs.Ythbmlioknnhleaa.Abs
open Go

/-- What a slot, a cell or a result holds. 'ptr k r c t': heap block k, row r, cell c of it, told while the block had t rows; 'lptr d c': the variable that slot d's 'alloc' or 'box' made; 'sl k r n t': rows r to r+n of block k; 'ssl': n cells of one row; 'vs', 'vp': a slice, a pointer into memory that is never written: its rows, its row. 'vf': a slice there of n rows of scalars, told by a function; 'vi': the same, of whole numbers of one kind (of no rows: it is not nil if q 0 0 = 0); 'vm': n slices there of m i numbers each. -/
inductive AV where
  | undef
  | bool (b : Bool)
  | int (k : IntKind) (n : Int)
  | str (s : ByteArray)
  | ptr (k r c t : Nat)
  | lptr (d c : Nat)
  | nilptr
  | sl (k r n t : Nat)
  | ssl (k r c n t : Nat)
  | vs (sz : Nat) (rows : List (List AV))
  | vp (row : List AV) (c : Nat)
  | vf (sz n : Nat) (f : Nat → List AV)
  | vi (k : IntKind) (sz n : Nat) (q : Nat → Nat → Int)
  | vm (n : Nat) (m : Nat → Nat) (q : Nat → Nat → Int)
  | esl
  | nilsl
  | fn (f : Nat) (caps : List AV)
  | agg (cs : List AV)
  | tup (vs : List AV)
  deriving Inhabited

structure Blk where
  e : Nat
  sz : Nat
  rows : List (List AV)
  deriving Inhabited

structure St where
  env : List (Nat × AV)
  lo : List (Nat × List AV)
  hp : List Blk
  n0 : Nat
  cl : Bool
  deriving Inhabited

/-- What one operation does: the value for its slot; the variable that it sets; the heap, if it turns it; whether it leaves alone what was there when the function began; of a call: below which block it leaves all alone. -/
structure Eff where
  v : AV := .undef
  lo : Option (Nat × List AV) := none
  hp : Option (List Blk) := none
  cl : Bool := true
  low : Nat := 0
  deriving Inhabited

inductive Ty where
  | int (k : IntKind)
  | bool
  | str
  | slice (e : Nat)
  | array (n e : Nat)
  | struct (fs : List (Nat × Nat))
  | other
  deriving Inhabited

/-- the kinds of a value's cells, where it can be compared cell by cell -/
inductive LK where
  | int
  | bool
  | str
  deriving Inhabited, DecidableEq

structure TI where
  d : Ty
  size : Nat
  bytes : Nat
  zero : List AV
  leaf : Option (List LK)
  deriving Inhabited

/-- For one function: the slots whose variables lie in the heap; the slots whose slices are never written; the appends that may write within a slice's room; for a loop (told by its first region) the slots, and the variables, that are kept at the head of a round; the loops at whose heads blocks that nothing names are dropped. -/
structure Cfg where
  esc : List Nat := []
  virt : List Nat := []
  over : List Nat := []
  keep : List (Nat × List Nat × List Nat) := []
  gc : List Nat := []
  deriving Inhabited

def agg? : Ty → Bool
  | .array _ _ | .struct _ => true
  | _ => false

/-- what may be stored or handed on -/
def AV.noL : AV → Bool
  | .lptr _ _ | .undef | .tup _ => false
  | _ => true

/-- so many cells of numbers, from the i-th on -/
def cellsFrom (k : IntKind) (q : Nat → Int) : Nat → Nat → List AV
  | _, 0 => []
  | i, n + 1 => .int k (q i) :: cellsFrom k q (i + 1) n
abbrev cellsI (k : IntKind) (sz : Nat) (q : Nat → Int) : List AV := cellsFrom k q 0 sz
/-- what a function tells from the l-th place on -/
def shiftF {α : Type} (l : Nat) (q : Nat → α) : Nat → α := match l with
  | 0 => q
  | l + 1 => fun i => q (l + 1 + i)
theorem shiftF_eq {α : Type} (l : Nat) (q : Nat → α) (i : Nat) : shiftF l q i = q (l + i) := by
  cases l with
  | zero => rw [Nat.zero_add]; rfl
  | succ l => rfl

def AV.cells : AV → List AV
  | .agg cs => cs
  | v => [v]

def isL (d : Nat) : AV → Bool
  | .lptr d' _ => d' == d
  | _ => false

def get (env : List (Nat × AV)) (t : Nat) : AV := (env.lookup t).getD .undef
def del {α : Type} (d : Nat) : List (Nat × α) → List (Nat × α)
  | [] => []
  | (t, v) :: l => bif t == d then del d l else (t, v) :: del d l
def clr (d : Nat) (env : List (Nat × AV)) : List (Nat × AV) := env.map fun p => (p.1, bif isL d p.2 then .undef else p.2)

def putE (env : List (Nat × AV)) (dst : Option Nat) (v : AV) : List (Nat × AV) :=
  match dst with
  | some d => (d, v) :: del d env
  | none => env

def putL (lo : List (Nat × List AV)) : Option (Nat × List AV) → List (Nat × List AV)
  | some (d, cs) => (d, cs) :: del d lo
  | none => lo

def St.app (st : St) (dst : Option Nat) (e : Eff) : St :=
  { env := putE (match e.v with | .lptr d 0 => (match dst with | some d' => bif d == d' then clr d st.env else st.env | none => st.env) | _ => st.env) dst e.v
    lo := putL st.lo e.lo, hp := e.hp.getD st.hp, n0 := st.n0, cl := st.cl && e.cl }

def constAV : Value → Option AV
  | .bool b => some (.bool b)
  | .int k n => some (.int k n)
  | .string s => some (.str s)
  | .pointer none => some .nilptr
  | .slice none 0 0 => some .nilsl
  | _ => none

def opd (env : List (Nat × AV)) : Operand → Option AV
  | .tmp t => some (get env t)
  | .const v => constAV v
  | .func f => some (.fn f [])
  | .global _ => none

def opds (env : List (Nat × AV)) : List (Nat × Operand) → Option (List (Nat × AV))
  | [] => some []
  | (i, x) :: l => match opd env x, opds env l with
    | some v, some vs => some ((i, v) :: vs)
    | _, _ => none

def args (env : List (Nat × AV)) : List Operand → Option (List AV)
  | [] => some []
  | x :: l => match opd env x, args env l with
    | some v, some vs => some (v :: vs)
    | _, _ => none

def optI (env : List (Nat × AV)) : Option Operand → Option (Option Int)
  | none => some none
  | some x => match opd env x with
    | some (.int _ n) => some (some n)
    | _ => none

/-- a block whose rows are as many as they were when the pointer or slice was told -/
def fresh (hp : List Blk) (k t : Nat) : Option Blk :=
  match hp[k]? with
  | some b => bif t == b.rows.length then some b else none
  | none => none

/-- the row that a pointer points into, and the cell -/
def rowAt (lo : List (Nat × List AV)) (hp : List Blk) : AV → Option (List AV × Nat)
  | .lptr d c => (lo.lookup d).map fun r => (r, c)
  | .vp r c => some (r, c)
  | .ptr k r c t => (fresh hp k t).bind fun b => (b.rows[r]?).map fun x => (x, c)
  | _ => none

def splice (row : List AV) (c : Nat) (cs : List AV) : List AV :=
  if c = 0 ∧ cs.length = row.length then cs else row.take c ++ (cs ++ row.drop (c + cs.length))

def partOf (ti : TI) (cs : List AV) (off : Nat) : Option AV :=
  bif agg? ti.d then (if off + ti.size ≤ cs.length then some (.agg ((cs.drop off).take ti.size)) else none)
  else cs[off]?

def most : Nat := 4294967296

def bytesOf : List (List AV) → Option (List UInt8)
  | [] => some []
  | [.int .u8 n] :: l => (bytesOf l).map (UInt8.ofNat n.toNat :: ·)
  | _ => none

def eqCells : List LK → List AV → List AV → Option Bool
  | [], [], [] => some true
  | .int :: ls, .int k a :: xs, .int k' b :: ys => if k = k' then (eqCells ls xs ys).map (decide (a = b) && ·) else none
  | .bool :: ls, .bool a :: xs, .bool b :: ys => (eqCells ls xs ys).map ((a == b) && ·)
  | .str :: ls, .str a :: xs, .str b :: ys => (eqCells ls xs ys).map ((a.toList == b.toList) && ·)
  | _, _, _ => none

def bytesLt : List UInt8 → List UInt8 → Bool
  | _, [] => false
  | [], _ :: _ => true
  | a :: x, b :: y => a < b || (a == b && bytesLt x y)

def binI (op : BinOp) (k : IntKind) (x y : Int) : Option AV :=
  match op with
  | .add => some (.int k (k.wrap (x + y)))
  | .sub => some (.int k (k.wrap (x - y)))
  | .mul => some (.int k (k.wrap (x * y)))
  | .quo => if y = 0 then none else some (.int k (k.wrap (x.tdiv y)))
  | .rem => if y = 0 then none else some (.int k (x.tmod y))
  | .and => some (.int k (k.wrap ((BitVec.ofInt k.bits x) &&& (BitVec.ofInt k.bits y)).toNat))
  | .or => some (.int k (k.wrap ((BitVec.ofInt k.bits x) ||| (BitVec.ofInt k.bits y)).toNat))
  | .xor => some (.int k (k.wrap ((BitVec.ofInt k.bits x) ^^^ (BitVec.ofInt k.bits y)).toNat))
  | .andNot => some (.int k (k.wrap ((BitVec.ofInt k.bits x) &&& ~~~(BitVec.ofInt k.bits y)).toNat))
  | .eql => some (.bool (decide (x = y)))
  | .neq => some (.bool (!decide (x = y)))
  | .lss => some (.bool (decide (x < y)))
  | .leq => some (.bool (decide (x ≤ y)))
  | .gtr => some (.bool (decide (y < x)))
  | .geq => some (.bool (decide (y ≤ x)))
  | _ => none

def binS (op : BinOp) (x y : ByteArray) : Option AV :=
  match op with
  | .add => if x.size + y.size ≤ most then some (.str (x ++ y)) else none
  | .eql => some (.bool (x.toList == y.toList))
  | .neq => some (.bool (!(x.toList == y.toList)))
  | .lss => some (.bool (bytesLt x.toList y.toList))
  | .leq => some (.bool (bytesLt x.toList y.toList || x.toList == y.toList))
  | .gtr => some (.bool (!(bytesLt x.toList y.toList || x.toList == y.toList)))
  | .geq => some (.bool (!bytesLt x.toList y.toList))
  | _ => none

def binA (leaf : Option (List LK)) (op : BinOp) (x y : AV) : Option AV :=
  match x, y with
  | .int k a, .int k' b =>
    match op with
    | .shl => if b < 0 then none else some (.int k (k.wrap (a * 2 ^ (min b.toNat k.bits))))
    | .shr => if b < 0 then none else some (.int k (a.fdiv (2 ^ (min b.toNat k.bits))))
    | op => if k = k' then binI op k a b else none
  | .str a, .str b => binS op a b
  | .agg a, .agg b => match op with
    | .eql => leaf.bind fun ls => (eqCells ls a b).map .bool
    | .neq => leaf.bind fun ls => (eqCells ls a b).map fun r => .bool (!r)
    | _ => none
  | _, _ => none

/-- the same, and two booleans held together -/
def binT (ti : Option TI) (op : BinOp) (x y : AV) : Option AV :=
  match x, y with
  | .bool a, .bool b => ti.bind fun t => match t.d, op with
    | .bool, .eql => some (.bool (a == b))
    | .bool, .neq => some (.bool (!(a == b)))
    | _, _ => none
  | .nilsl, .nilsl => ti.bind fun t => match t.d, op with
    | .slice _, .eql => some (.bool true)
    | .slice _, .neq => some (.bool false)
    | _, _ => none
  | .vi _ _ n q, .nilsl => ti.bind fun t => match t.d, op with
    | .slice _, .eql => if n = 0 ∧ ¬ q 0 0 = 0 then none else some (.bool false)
    | .slice _, .neq => if n = 0 ∧ ¬ q 0 0 = 0 then none else some (.bool true)
    | _, _ => none
  | x, y => binA (ti.bind (·.leaf)) op x y

/-- the same, and a slice of the heap held against nil -/
def binH (ti : Option TI) (hp : List Blk) (op : BinOp) (x y : AV) : Option AV :=
  match x, y with
  | .sl k _ _ t, .nilsl => (fresh hp k t).bind fun _ => ti.bind fun d => match d.d, op with
    | .slice _, .eql => some (.bool false)
    | .slice _, .neq => some (.bool true)
    | _, _ => none
  | x, y => binT ti op x y

def unA (op : UnOp) (x : AV) : Option AV :=
  match op, x with
  | .neg, .int k n => some (.int k (k.wrap (0 - n)))
  | .not, .bool b => some (.bool !b)
  | _, _ => none

def pickA (c a b : AV) : Option AV :=
  match c, a, b with
  | .bool t, .bool x, .bool y => some (.bool (bif t then x else y))
  | .bool t, x, y => some (if t then x else y)
  | _, _, _ => none

def foldI (f : Int → Int → Int) : IntKind → Int → List AV → Option AV
  | k, n, [] => some (.int k n)
  | k, n, .int _ m :: l => foldI f k (f n m) l
  | _, _, _ => none

def allNoL : List AV → Bool
  | [] => true
  | v :: l => v.noL && allNoL l

/-- the parts of a built value, one behind the other and none left out -/
def packed : List (Nat × Nat) → List (Nat × AV) → Nat → Nat → Option (List (List AV))
  | [], [], _, _ => some []
  | (off, s) :: pl, (j, v) :: ps, i, at_ => if off = at_ ∧ j = i ∧ v.noL = true ∧ v.cells.length = s then (packed pl ps (i + 1) (at_ + s)).map (v.cells :: ·) else none
  | _, _, _, _ => none

def evenly (n s : Nat) : List (Nat × Nat) := (List.range n).map fun i => (i * s, s)

def filled (place : Nat → Option (Nat × Nat)) : List (Nat × AV) → List AV → Option (List AV)
  | [], cs => some cs
  | (j, v) :: ps, cs =>
    match place j with
    | some (off, s) => if v.noL = true ∧ v.cells.length = s ∧ off + s ≤ cs.length then filled place ps (splice cs off v.cells) else none
    | none => none

/-- what a call gives, the heap, and below which block all was left as it was -/
abbrev Rec := Nat → List AV → List Blk → Option (AV × List Blk × Nat)

section
variable (T : Nat → Option TI)

def sizeT (ty : Nat) : Option Nat := (T ty).map (·.size)

def placesT : List (Nat × Nat) → Option (List (Nat × Nat))
  | [] => some []
  | (off, ty) :: fs => match sizeT T ty, placesT fs with
    | some s, some ss => some ((off, s) :: ss)
    | _, _ => none

/-- a slice type's element type -/
def elemT (ty : Nat) : Option (Nat × TI) :=
  match T ty with
  | some ti => match ti.d with
    | .slice e => (T e).map fun te => (e, te)
    | _ => none
  | none => none

/-- an array type's length and element type -/
def arrT (ty : Nat) : Option (Nat × TI) :=
  match T ty with
  | some ti => match ti.d with
    | .array n e => (T e).map fun te => (n, te)
    | _ => none
  | none => none

/-- a struct type's field: where it begins, and its type -/
def fieldT (ty f : Nat) : Option (Nat × TI) :=
  match T ty with
  | some ti => match ti.d with
    | .struct fs => match fs[f]? with
      | some (off, ft) => (T ft).map fun tf => (off, tf)
      | none => none
    | _ => none
  | none => none

/-- may a value of this type be appended from? -/
def isSrc (ty : Nat) : Bool :=
  match T ty with
  | some ti => match ti.d with
    | .slice _ | .str => true
    | _ => false
  | none => false

def isInt (ty : Nat) : Bool :=
  match T ty with
  | some ti => match ti.d with
    | .int _ => true
    | _ => false
  | none => false

def loadA (lo : List (Nat × List AV)) (hp : List Blk) (ty : Nat) (p : AV) : Option AV :=
  (rowAt lo hp p).bind fun (row, c) => (T ty).bind fun ti => partOf ti row c

def storeRow (v : AV) (row : List AV) (c : Nat) : List AV :=
  match v with
  | .agg cs => splice row c cs
  | x => row.set c x

def storeA (lo : List (Nat × List AV)) (hp : List Blk) (n0 : Nat) (ty : Nat) (p v : AV) : Option Eff :=
  match T ty with
  | some ti =>
    if v.noL = true ∧ v.cells.length = ti.size then
      match p with
      | .lptr d c =>
        match lo.lookup d with
        | some row => if c + ti.size ≤ row.length then some { lo := some (d, storeRow v row c) } else none
        | none => none
      | .ptr k r c t =>
        match fresh hp k t with
        | some b =>
          match b.rows[r]? with
          | some row => if c + ti.size ≤ row.length then some { hp := some (hp.set k { b with rows := b.rows.set r (storeRow v row c) }), cl := decide (n0 ≤ k) } else none
          | none => none
        | none => none
      | _ => none
    else none
  | none => none

/-- a new variable -/
def varA (esc : Bool) (hp : List Blk) (dst : Option Nat) (ty : Nat) (cs : List AV) : Option Eff :=
  match dst with
  | some d =>
    bif esc then (if 0 < cs.length then some { v := .ptr hp.length 0 0 1, hp := some (hp ++ [⟨ty, cs.length, [cs]⟩]) } else none)
    else some { v := .lptr d 0, lo := some (d, cs) }
  | none => none

def fillA (pl : List (Nat × Nat)) (parts : List (Nat × AV)) (zero : List AV) : Option (List AV) :=
  match parts with
  | [] => some zero
  | _ => match packed pl parts 0 0 with
    | some l => if l.flatten.length = zero.length then some l.flatten else none
    | none => filled (fun i => pl[i]?) parts zero

def buildA (ty : Nat) (parts : List (Nat × AV)) : Option (List AV) :=
  match T ty with
  | some ti =>
    match ti.d with
    | .struct fs => (placesT T fs).bind fun pl => fillA pl parts ti.zero
    | .array n e => (sizeT T e).bind fun s => if n ≤ 64 then fillA (evenly n s) parts ti.zero else none
    | _ => none
  | none => none

/-- the rows, of so many cells each, of a slice's elements, or a string's bytes -/
def rowsA (hp : List Blk) (size : Nat) : AV → Option (List (List AV))
  | .nilsl | .esl => some []
  | .vs sz rows => if sz = size then some rows else none
  | .vf sz n f => if sz = size then some ((List.range n).map f) else none
  | .vi k sz n q => if sz = size then some ((List.range n).map fun i => cellsI k sz (q i)) else none
  | .sl k r n t => (fresh hp k t).bind fun b => if b.sz = size ∧ r + n ≤ b.rows.length then some ((b.rows.drop r).take n) else none
  | .str s => if size = 1 then some (s.data.toList.map fun b => [.int .u8 b.toNat]) else none
  | _ => none

def appendA (hp : List Blk) (n0 : Nat) (e : Nat) (te : TI) (s : AV) (new : List (List AV)) : Option Eff :=
  match s with
  | .nilsl | .esl =>
    match new with
    | [] => some { v := s }
    | _ => if new.length ≤ most then some { v := .sl hp.length 0 new.length new.length, hp := some (hp ++ [⟨e, te.size, new⟩]) } else none
  | .sl k 0 n t =>
    match fresh hp k t with
    | some b =>
      if b.e = e ∧ b.sz = te.size ∧ n + new.length ≤ most then
        if n = t then some { v := .sl k 0 (n + new.length) (t + new.length), hp := some (hp.set k { b with rows := b.rows ++ new }), cl := decide (n0 ≤ k) }
        else if n + new.length ≤ t then some { v := .sl k 0 (n + new.length) t, hp := some (hp.set k { b with rows := b.rows.take n ++ (new ++ b.rows.drop (n + new.length)) }), cl := decide (n0 ≤ k) }
        else none
      else none
    | none => none
  | _ => none

def isStr (ty : Nat) : Bool :=
  match T ty with
  | some ti => match ti.d with
    | .str => true
    | _ => false
  | none => false

/-- the bounds of a cut: where it begins, where it ends -/
def cut (n : Nat) (lo hi : Option Int) : Option (Nat × Nat) :=
  if 0 ≤ lo.getD 0 ∧ lo.getD 0 ≤ hi.getD n ∧ hi.getD n ≤ n then some ((lo.getD 0).toNat, (hi.getD n).toNat) else none

def sliceA (hp : List Blk) (ty : Nat) (x : AV) (lo hi mx : Option Int) : Option AV :=
  match mx with
  | none =>
    match x with
    | .str s => bif isStr T ty then (cut s.size lo hi).map fun (l, h) => .str (s.extract l h) else none
    | .nilsl => (elemT T ty).bind fun _ => (cut 0 lo hi).map fun _ => .nilsl
    | .esl => (elemT T ty).bind fun _ => (cut 0 lo hi).map fun _ => .esl
    | .sl k r n t => (elemT T ty).bind fun (_, te) => (fresh hp k t).bind fun b => if te.size = b.sz ∧ r + n ≤ b.rows.length then (cut n lo hi).map fun (l, h) => .sl k (r + l) (h - l) t else none
    | .vs sz rows => (elemT T ty).bind fun (_, te) => if te.size = sz then (cut rows.length lo hi).map fun (l, h) => .vs sz ((rows.drop l).take (h - l)) else none
    | .vf sz n f => (elemT T ty).bind fun (_, te) => if te.size = sz then (cut n lo hi).map fun (l, h) => .vf sz (h - l) (fun i => f (l + i)) else none
    | .vi k sz n q => (elemT T ty).bind fun (_, te) => if te.size = sz then (cut n lo hi).map fun (l, h) => .vi k sz (h - l) (shiftF l q) else none
    | .ptr k r c t => (arrT T ty).bind fun (n, te) => (fresh hp k t).bind fun b =>
        if te.size = 1 ∧ r < b.rows.length ∧ c + n ≤ b.sz then (cut n lo hi).map fun (l, h) => .ssl k r (c + l) (h - l) t else none
    | _ => none
  | some m =>
    -- s[0:0:0] alone
    if m = 0 ∧ lo.getD 0 = 0 ∧ hi = some 0 then
      match x with
      | .nilsl => (elemT T ty).map fun _ => .nilsl
      | .esl => (elemT T ty).map fun _ => .esl
      | .sl k _ _ t => (elemT T ty).bind fun _ => (fresh hp k t).map fun _ => .esl
      | .vf _ _ _ => (elemT T ty).map fun _ => .esl
      | .vi _ _ _ _ => (elemT T ty).map fun _ => .esl
      | _ => none
    else none

def lenA (hp : List Blk) (ty : Nat) (x : AV) : Option AV :=
  match x with
  | .str s => bif isStr T ty then some (.int .i64 s.size) else none
  | .nilsl | .esl => (elemT T ty).map fun _ => .int .i64 0
  | .vs _ rows => (elemT T ty).map fun _ => .int .i64 rows.length
  | .vf _ n _ => (elemT T ty).map fun _ => .int .i64 n
  | .vi _ _ n _ => (elemT T ty).map fun _ => .int .i64 n
  | .vm n _ _ => (elemT T ty).map fun _ => .int .i64 n
  | .sl k _ n t => (elemT T ty).bind fun _ => (fresh hp k t).map fun _ => .int .i64 n
  | .ssl k _ _ n t => (elemT T ty).bind fun _ => (fresh hp k t).map fun _ => .int .i64 n
  | _ => (arrT T ty).map fun (n, _) => .int .i64 n

def indexAddrA (hp : List Blk) (ty : Nat) (x i : AV) : Option AV :=
  match i with
  | .int _ i =>
    match x with
    | .sl k r n t => (fresh hp k t).bind fun b => (elemT T ty).bind fun (_, te) => if te.size = b.sz ∧ 0 ≤ i ∧ i < n ∧ r + n ≤ b.rows.length then some (.ptr k (r + i.toNat) 0 t) else none
    | .ssl k r c n t => (fresh hp k t).bind fun _ => (elemT T ty).bind fun (_, te) => if te.size = 1 ∧ 0 ≤ i ∧ i < n then some (.ptr k r (c + i.toNat) t) else none
    | .vs sz rows => (elemT T ty).bind fun (_, te) => if te.size = sz ∧ 0 ≤ i then (rows[i.toNat]?).map fun row => .vp row 0 else none
    | .vf sz n f => (elemT T ty).bind fun (_, te) => if te.size = sz ∧ 0 ≤ i ∧ i < n then some (.vp (f i.toNat) 0) else none
    | .vi k sz n q => (elemT T ty).bind fun (_, te) => if te.size = sz ∧ 0 ≤ i ∧ i < n then some (.vp (cellsI k sz (q i.toNat)) 0) else none
    | .vm n m q => (elemT T ty).bind fun (_, te) => if te.size = 1 ∧ 0 ≤ i ∧ i < n then some (.vp [.vi .i64 1 (m i.toNat) fun j _ => q i.toNat j] 0) else none
    | .lptr d c => (arrT T ty).bind fun (n, te) => if 0 ≤ i ∧ i < n then some (.lptr d (c + i.toNat * te.size)) else none
    | .vp r c => (arrT T ty).bind fun (n, te) => if 0 ≤ i ∧ i < n then some (.vp r (c + i.toNat * te.size)) else none
    | .ptr k r c t => (fresh hp k t).bind fun _ => (arrT T ty).bind fun (n, te) => if 0 ≤ i ∧ i < n then some (.ptr k r (c + i.toNat * te.size) t) else none
    | _ => none
  | _ => none

def indexA (ty : Nat) (x i : AV) : Option AV :=
  match i with
  | .int _ i =>
    match x with
    | .str s => bif isStr T ty then if 0 ≤ i then (s.data[i.toNat]?).map fun b => .int .u8 b.toNat else none else none
    | .agg cs => (arrT T ty).bind fun (n, te) => if 0 ≤ i ∧ i < n then partOf te cs (i.toNat * te.size) else none
    | _ => none
  | _ => none

def fieldA (ty : Nat) (x : AV) (f : Nat) : Option AV :=
  match x with
  | .agg cs => (fieldT T ty f).bind fun (off, tf) => partOf tf cs off
  | _ => none

def fieldAddrA (hp : List Blk) (ty : Nat) (p : AV) (f : Nat) : Option AV :=
  (fieldT T ty f).bind fun (off, tf) =>
   if tf.size = 0 then none else
    match p with
    | .lptr d c => some (.lptr d (c + off))
    | .vp r c => some (.vp r (c + off))
    | .ptr k r c t => (fresh hp k t).map fun _ => .ptr k r (c + off) t
    | _ => none

def isBytes (ty : Nat) : Bool :=
  match elemT T ty with
  | some (_, te) => match te.d with
    | .int .u8 => true
    | _ => false
  | none => false

def convA (hp : List Blk) (src dst : Nat) (x : AV) : Option AV :=
  (T src).bind fun _ => (T dst).bind fun ti =>
    match ti.d with
    | .int k => (match x with
      | .int _ n => some (.int k (k.wrap n))
      | _ => none)
    | .str => (match x with
      | .str s => some (.str s)
      | .sl k r n t => bif isBytes T src then (rowsA hp 1 (.sl k r n t)).bind fun rows => (bytesOf rows).map fun l => .str ⟨l.toArray⟩ else none
      | _ => none)
    | _ => none

def clearA (hp : List Blk) (n0 : Nat) (zero : List AV) (x : AV) : Option Eff :=
  match x with
  | .nilsl | .esl => some { v := .tup [] }
  | .sl k r n t => (fresh hp k t).bind fun b =>
      if r + n ≤ b.rows.length ∧ zero.length = b.sz then some { v := .tup [], hp := some (hp.set k { b with rows := b.rows.take r ++ (List.replicate n zero ++ b.rows.drop (r + n)) }), cl := decide (n0 ≤ k) } else none
  | _ => none

def callA (rec : Rec) (hp : List Blk) (n0 f : Nat) (vs : List AV) : Option Eff :=
  bif allNoL vs then (rec f vs hp).map fun (v, hp, c) => { v, hp := some hp, cl := decide (n0 ≤ c), low := c } else none

def val (v : Option AV) : Option Eff := v.map fun v => { v }

def builtinA (st : St) (b : Builtin) (tys : List Nat) (vs : List AV) : Option Eff :=
  match b, tys, vs with
  | .len, ty :: _, x :: _ => val (lenA T st.hp ty x)
  | .cap, ty :: _, .nilsl :: _ => (elemT T ty).map fun _ => { v := .int .i64 0 }
  | .append, [ty, ty2], [s, x] =>
    (elemT T ty).bind fun (e, te) =>
      if te.bytes ≤ 1024 ∧ 0 < te.size then
        bif isInt T ty2 then
          (match x with
           | .int .i64 n => if 0 ≤ n ∧ n ≤ most then appendA st.hp st.n0 e te s (List.replicate n.toNat te.zero) else none
           | _ => none)
        else bif isSrc T ty2 then (rowsA st.hp te.size x).bind fun new => appendA st.hp st.n0 e te s new else none
      else none
  | .clear, [ty], [x] => (elemT T ty).bind fun (_, te) => clearA st.hp st.n0 te.zero x
  | .max, _, .int k n :: l => val (foldI (fun x y => if y > x then y else x) k n l)
  | .min, _, .int k n :: l => val (foldI (fun x y => if y < x then y else x) k n l)
  | _, _, _ => none

def eff (rec : Rec) (cfg : Cfg) (o : Oper) (st : St) : Option Eff :=
  match o.op with
  | .move x | .assign x => val (opd st.env x)
  | .pick c a b => (opd st.env c).bind fun c => (opd st.env a).bind fun a => (opd st.env b).bind fun b => val (pickA c a b)
  | .alloc e => (T e).bind fun ti => varA (cfg.esc.contains (o.dst.getD 0)) st.hp o.dst e ti.zero
  | .box e x => (T e).bind fun ti => (opd st.env x).bind fun v =>
      if v.noL = true ∧ v.cells.length = ti.size then varA (cfg.esc.contains (o.dst.getD 0)) st.hp o.dst e v.cells else none
  | .build ty parts => (opds st.env parts.toList).bind fun ps => val ((buildA T ty ps).map .agg)
  | .buildSlice ty len parts => (elemT T ty).bind fun (e, te) => (opds st.env parts.toList).bind fun ps =>
      if 0 < te.size ∧ len ≤ 1024 ∧ te.size ≤ 1024 then
        (packed (evenly len te.size) ps 0 0).bind fun rows =>
          bif cfg.virt.contains (o.dst.getD 0) then some { v := .vs te.size rows }
          else some { v := .sl st.hp.length 0 len len, hp := some (st.hp ++ [⟨e, te.size, rows⟩]) }
      else none
  | .load ty p => (opd st.env p).bind fun p => val (loadA T st.lo st.hp ty p)
  | .store ty p x => (opd st.env p).bind fun p => (opd st.env x).bind fun v => storeA T st.lo st.hp st.n0 ty p v
  | .nilCheck x => (opd st.env x).bind fun
    | .lptr d c => some { v := .lptr d c }
    | .vp r c => some { v := .vp r c }
    | .ptr k r c t => (fresh st.hp k t).map fun _ => { v := .ptr k r c t }
    | .fn f caps => some { v := .fn f caps }
    | _ => none
  | .binOp op ty x y _ => (opd st.env x).bind fun a => (opd st.env y).bind fun b => val (binH (T ty) st.hp op a b)
  | .unOp op _ x => (opd st.env x).bind fun a => val (unA op a)
  | .convert src dst x => (opd st.env x).bind fun a => val (convA T st.hp src dst a)
  | .makeFunc fn first captured => match fn with
    | .func f => if first.size = 0 then (args st.env captured.toList).bind fun vs => bif allNoL vs then some { v := .fn f vs } else none else none
    | _ => none
  | .makeSlice ty l c => (elemT T ty).bind fun (e, te) => (opd st.env l).bind fun l => (opd st.env c).bind fun c =>
      match l, c with
      | .int .i64 n, .int .i64 m =>
        if 0 < te.size ∧ te.bytes ≤ 1024 ∧ 0 ≤ n ∧ n = m ∧ n ≤ most then
          some { v := .sl st.hp.length 0 n.toNat n.toNat, hp := some (st.hp ++ [⟨e, te.size, List.replicate n.toNat te.zero⟩]) }
        else none
      | _, _ => none
  | .slice ty x lo hi mx => (opd st.env x).bind fun v => (optI st.env lo).bind fun lo => (optI st.env hi).bind fun hi => (optI st.env mx).bind fun mx => val (sliceA T st.hp ty v lo hi mx)
  | .fieldAddr s x f => (opd st.env x).bind fun p => val (fieldAddrA T st.hp s p f)
  | .field s x f => (opd st.env x).bind fun v => val (fieldA T s v f)
  | .indexAddr ty x i => (opd st.env x).bind fun v => (opd st.env i).bind fun i => val (indexAddrA T st.hp ty v i)
  | .index ty x i => (opd st.env x).bind fun v => (opd st.env i).bind fun i => val (indexA T ty v i)
  | .extract x i => (opd st.env x).bind fun
    | .tup vs => val (vs[i]?)
    | _ => none
  | .call c => (args st.env c.args.toList).bind fun vs =>
      match c.callee with
      | .value (.func f) => callA rec st.hp st.n0 f vs
      | .value x => (opd st.env x).bind fun
        | .fn f caps => callA rec st.hp st.n0 f (vs ++ caps)
        | _ => none
      | .builtin b => builtinA T st b c.argTypes.toList vs
      | _ => none
  | _ => none

def guardA (ops : Array Oper) (o : Oper) (st : St) : Option Bool :=
  match o.guard with
  | none => some true
  | some (j, want) => ((ops[j]?).bind (·.dst)).bind fun d => match get st.env d with
    | .bool b => some (b == want)
    | .tup [] => some false
    | _ => none

/-- one operation in its place -/
def stepA (rec : Rec) (cfg : Cfg) (ops : Array Oper) (o : Oper) (st : St) : Option St :=
  (guardA ops o st).bind fun g => bif g then (eff T rec cfg o st).map fun e => st.app o.dst e else some { st with env := putE st.env o.dst (.tup []) }

def runOps (rec : Rec) (cfg : Cfg) (ops : Array Oper) : List Oper → St → Option St
  | [], st => some st
  | o :: l, st => (stepA T rec cfg ops o st).bind fun st => runOps rec cfg ops l st

end
end Go.Proofs.Ythbmlioknnhleaa.Abs

/- The abstract machine: regions in their order, code, functions. Definitions. -/
namespace Go.Proofs.Ythbmlioknnhleaa.Abs
open Go

/-! ### types, off the program -/
def zeroCells : List Value → Option (List AV)
  | [] => some []
  | v :: l => match constAV v, zeroCells l with
    | some x, some xs => some (x :: xs)
    | _, _ => none

def tyOf (P : Program) (t : Nat) : Ty :=
  match P.underlying t with
  | some .bool => .bool
  | some (.int k) => .int k
  | some .string => .str
  | some (.slice e) => .slice e
  | some (.array n e) => .array n e
  | some (.struct fs) => .struct (fs.toList.map fun f => (f.offset, f.type))
  | _ => .other

/-- the kinds of the cells of the fields, where they lie one behind the other -/
def leavesF (P : Program) (g : Nat → Option (List LK)) : List Field → Nat → Option (List LK)
  | [], _ => some []
  | f :: fs, at_ =>
    match g f.type, P.info? f.type with
    | some l, some i => if f.offset = at_ ∧ f.name ≠ "_" ∧ i.size = l.length then (leavesF P g fs (at_ + l.length)).map (l ++ ·) else none
    | _, _ => none

def leavesT (P : Program) : Nat → Nat → Option (List LK)
  | 0, _ => none
  | d + 1, t =>
    match P.underlying t with
    | some (.int _) => some [.int]
    | some .bool => some [.bool]
    | some .string => some [.str]
    | some (.array n e) => match leavesT P d e, P.info? e with
      | some l, some i => if i.size = l.length then some (List.replicate n l).flatten else none
      | _, _ => none
    | some (.struct fs) => if P.stoodInHeld t = true then none else leavesF P (leavesT P d) fs.toList 0
    | _ => none

def tiOf (P : Program) (t : Nat) : Option TI :=
  match P.info? t with
  | some i => match i.zero with
    | some z => match zeroCells z.cells.toList with
      | some zs => if zs.length = i.size ∧ (P.underlying t).isSome = true then some { d := tyOf P t, size := i.size, bytes := i.bytes, zero := zs, leaf := if agg? (tyOf P t) = true then leavesT P 6 t else none } else none
      | none => none
    | none => none
  | none => none

/-! ### order -/
/-- a slot's variable; a heap block; the heap blocks from the n-th on -/
inductive Loc where
  | lo (d : Nat)
  | hp (k : Nat)
  | ge (n : Nat)
  deriving DecidableEq

structure Foot where
  act : Bool := false
  rd : List Loc := []
  wr : List Loc := []

def locL : AV → List Loc
  | .lptr d _ => [.lo d]
  | _ => []
def locH : AV → List Loc
  | .ptr k _ _ _ | .sl k _ _ _ | .ssl k _ _ _ _ => [.hp k]
  | _ => []

def tmpVs (env : List (Nat × AV)) : List Operand → List AV
  | [] => []
  | .tmp t :: l => get env t :: tmpVs env l
  | _ :: l => tmpVs env l

def callFn (c : Call) : Bool := match c.callee with
  | .builtin _ => false
  | _ => true

/-- the operands behind which heap blocks are looked at -/
def looksH (o : Op) : List Operand :=
  match o with
  | .load _ p | .store _ p _ | .nilCheck p | .convert _ _ p | .slice _ p _ _ _ | .fieldAddr _ p _ | .indexAddr _ p _ | .binOp _ _ p _ _ => [p]
  | .call c => c.args.toList
  | _ => []

/-- the operands behind which heap blocks may be written -/
def writesH (o : Op) : List Operand :=
  match o with
  | .store _ p _ => [p]
  | .call c => c.args.toList.take 1
  | _ => []

def isCallFn (o : Op) : Bool := match o with
  | .call c => callFn c
  | _ => false

def dstL (env : List (Nat × AV)) : Option Nat → List Loc
  | some d => locL (get env d)
  | none => []

def foot (o : Oper) (st : St) (e : Eff) : Foot :=
  { act := e.hp.isSome
    rd := (tmpVs st.env o.op.operands.toList).flatMap locL ++ locL e.v ++ dstL st.env o.dst ++ (tmpVs st.env (looksH o.op)).flatMap locH ++ (bif isCallFn o.op then [.ge 0] else [])
    wr := (match e.lo with | some (d, _) => [.lo d] | none => []) ++ (match e.v, o.dst with | .lptr d _, some d' => bif d == d' then [.lo d] else [] | _, _ => []) ++
      (bif e.hp.isSome then (bif isCallFn o.op then [.ge e.low] else .ge st.hp.length :: (tmpVs st.env (writesH o.op)).flatMap locH) else []) }

/-- where the guard bars it: the slot is set alone -/
def footNo (o : Oper) (st : St) : Foot := { rd := dstL st.env o.dst }

def Loc.meets : Loc → Loc → Bool
  | .lo a, .lo b => a == b
  | .hp a, .hp b => a == b
  | .ge n, .hp a | .hp a, .ge n => decide (n ≤ a)
  | .ge _, .ge _ => true
  | _, _ => false

def meets (x y : List Loc) : Bool := x.any fun a => y.any fun b => a.meets b

/-- two operations of which either may come first -/
def Foot.clash (x y : Foot) : Bool := (x.act && y.act) || meets x.wr y.rd || meets x.wr y.wr || meets x.rd y.wr

/-- the operations behind which operation i comes, in every order -/
def predsOf (pre : List (List Nat)) (o : Oper) : List Nat :=
  (o.after.toList.filter (Region.binds .any ·)).flatMap fun e => e.on :: pre.getD e.on []

def preds : List Oper → List (List Nat) → List (List Nat)
  | [], pre => pre
  | o :: l, pre => preds l (pre ++ [predsOf pre o])

def looks (ops : Array Oper) (o : Oper) : List Nat :=
  (o.op.operands.toList.filterMap fun | .tmp t => some t | _ => none) ++
  (match o.guard with
   | some (g, _) => ((ops[g]?).bind (·.dst)).toList
   | none => [])

def slotsOk (ops : Array Oper) (x y : Oper) : Bool :=
  (match x.dst with
   | some d => !(looks ops y).contains d && y.dst != some d
   | none => true) &&
  (match y.dst with
   | some d => !(looks ops x).contains d
   | none => true)

/-- the pairs (i, j), i < j, of which either may come first -/
def free (ops : Array Oper) : List (Nat × Nat) :=
  let pre := preds ops.toList []
  (List.range ops.size).flatMap fun j => ((List.range j).filter fun i => !(pre.getD j []).contains i).map fun i => (i, j)

def backward : List Oper → Nat → Bool
  | [], _ => true
  | o :: l, n => o.after.toList.all (fun e => !Region.binds .any e || decide (e.on < n)) && backward l (n + 1)

def orderOk (ops : Array Oper) : Bool :=
  backward ops.toList 0 && (free ops).all fun (i, j) => match ops[i]?, ops[j]? with
    | some x, some y => slotsOk ops x y
    | _, _ => false

def feetOk (ops : Array Oper) (feet : List Foot) : Bool :=
  (free ops).all fun (i, j) => match feet[i]?, feet[j]? with
    | some x, some y => !x.clash y
    | _, _ => false

def noStale (dst : Option Nat) (e : Eff) (env : List (Nat × AV)) : Bool :=
  match e.v, dst with
  | .lptr d 0, some d' => bif d == d' then env.all (fun p => p.1 == d || !isL d (get env p.1)) else true
  | _, _ => true

section
variable (T : Nat → Option TI)

def stepD (rec : Rec) (cfg : Cfg) (ops : Array Oper) (o : Oper) (st : St) : Option (St × Foot) :=
  (guardA ops o st).bind fun g => bif g then (eff T rec cfg o st).bind fun e => bif noStale o.dst e st.env then some (st.app o.dst e, foot o st e) else none
    else some ({ st with env := putE st.env o.dst (.tup []) }, footNo o st)

def runD (rec : Rec) (cfg : Cfg) (ops : Array Oper) : List Oper → St → Option (St × List Foot)
  | [], st => some (st, [])
  | o :: l, st => (stepD T rec cfg ops o st).bind fun (st, f) => (runD rec cfg ops l st).map fun (st, fs) => (st, f :: fs)

def region (rec : Rec) (cfg : Cfg) (ops : Array Oper) (draw : Bool) (st : St) : Option St :=
  bif draw then bif orderOk ops then (runD T rec cfg ops ops.toList st).bind fun (st, fs) => bif feetOk ops fs then some st else none else none
  else runOps T rec cfg ops ops.toList st

/-! ### code -/
inductive Ex where
  | normal
  | exit (id : Nat)
  | ret
  deriving Inhabited, DecidableEq

def firstRegion : Code → Option Nat
  | .region id _ _ => some id
  | .seq a b => match firstRegion a with
    | some i => some i
    | none => firstRegion b
  | .block _ c | .loop c => firstRegion c
  | .cond _ a b => match firstRegion a with
    | some i => some i
    | none => firstRegion b
  | _ => none

def pickE (env : List (Nat × AV)) : List Nat → List (Nat × AV)
  | [] => []
  | t :: l => match env.lookup t with
    | some v => (t, v) :: pickE env l
    | none => pickE env l
def pickL (lo : List (Nat × List AV)) : List Nat → List (Nat × List AV)
  | [] => []
  | t :: l => match lo.lookup t with
    | some v => (t, v) :: pickL lo l
    | none => pickL lo l

mutual
/-- the heap blocks that a value names -/
def refs : AV → List Nat
  | .ptr k _ _ _ | .sl k _ _ _ | .ssl k _ _ _ _ => [k]
  | .fn _ caps => refsL caps
  | .agg cs => refsL cs
  | .tup vs => refsL vs
  | .vs _ rows => refsR rows
  | .vp row _ => refsL row
  | _ => []
def refsL : List AV → List Nat
  | [] => []
  | v :: l => refs v ++ refsL l
def refsR : List (List AV) → List Nat
  | [] => []
  | r :: l => refsL r ++ refsR l
end

mutual
def ren (k k' : Nat) : AV → AV
  | .sl j r n t => .sl (if j = k then k' else j) r n t
  | .agg cs => .agg (renL k k' cs)
  | .tup vs => .tup (renL k k' vs)
  | v => v
def renL (k k' : Nat) : List AV → List AV
  | [] => []
  | v :: l => ren k k' v :: renL k k' l
end

def flatTops : List Nat → Option (List Nat)
  | [] => some []
  | _ => none

mutual
/-- the slices that 'ren' comes to: the only names of heap blocks in the value -/
def tops : AV → Option (List Nat)
  | .sl k _ _ _ => some [k]
  | .agg cs => topsL cs
  | .tup vs => topsL vs
  | v => flatTops (refs v)
def topsL : List AV → Option (List Nat)
  | [] => some []
  | v :: l => match tops v, topsL l with
    | some a, some b => some (a ++ b)
    | _, _ => none
end

/-- the block that values name, if it is one alone -/
def oneRef : List Nat → Option Nat
  | [] => none
  | [i] => some i
  | i :: j :: l => bif i == j then oneRef (j :: l) else none
theorem oneRef_all : ∀ {l : List Nat} {i : Nat}, oneRef l = some i → ∀ j ∈ l, j = i
  | [], i, h, j, hj => by cases hj
  | [a], i, h, j, hj => by cases h; simpa using hj
  | a :: b :: l, i, h, j, hj => by
    simp only [oneRef] at h
    by_cases e : a = b
    · subst e
      simp only [BEq.rfl, cond_true] at h
      have ih := oneRef_all h
      rcases List.mem_cons.1 hj with rfl | hj
      · exact ih _ (by simp)
      · exact ih j hj
    · have : (a == b) = false := by simpa using e
      rw [this] at h
      cases h

theorem topsL_get : ∀ {l : List AV} {ks : List Nat}, topsL l = some ks → ∀ (j : Nat) (x : AV), l[j]? = some x → ∃ ks', tops x = some ks'
  | [], ks, h, j, x, hx => by simp at hx
  | v :: l, ks, h, j, x, hx => by
    simp only [topsL] at h
    split at h
    · rename_i a b ha hb
      cases j with
      | zero => simp at hx; subst hx; exact ⟨a, ha⟩
      | succ j => exact topsL_get hb j x (by simpa using hx)
    · cases h
theorem renL_get' (k k' : Nat) : ∀ (l : List AV) (j : Nat), (renL k k' l)[j]? = (l[j]?).map (ren k k')
  | [], j => rfl
  | v :: l, 0 => rfl
  | v :: l, j + 1 => by simpa [renL] using renL_get' k k' l j
theorem renL_len' (k k' : Nat) : ∀ (l : List AV), (renL k k' l).length = l.length
  | [] => rfl
  | v :: l => by simp [renL, renL_len' k k' l]

/-- all that the slots and the variables hold -/
def valsOf (st : St) : List AV := st.env.map (·.2) ++ st.lo.flatMap (·.2)
def renE (k : Nat) (env : List (Nat × AV)) : List (Nat × AV) := env.map fun p => (p.1, ren k 0 p.2)
def renLo (k : Nat) (lo : List (Nat × List AV)) : List (Nat × List AV) := lo.map fun p => (p.1, renL k 0 p.2)
/-- numbers, and slices of what is never written -/
def scalarV : AV → Bool
  | .int _ _ | .bool _ | .str _ => true
  | _ => false
def bareV : AV → Bool
  | .vs _ rows => rows.all fun row => row.all scalarV
  | v => scalarV v
def bareRows (rows : List (List AV)) : Bool := rows.all fun row => row.all bareV
/-- where one block alone is named, and names none, the others are dropped -/
def gcS (st : St) : St :=
  bif decide (st.n0 = 0) then
    match oneRef (refsL (valsOf st)), topsL (valsOf st) with
    | some k, some _ => match st.hp[k]? with
      | some b => bif bareRows b.rows then { st with env := renE k st.env, lo := renLo k st.lo, hp := [b] } else st
      | none => st
    | _, _ => st
  else st
/-- a round begins: what is not kept is forgotten -/
def norm0 (cfg : Cfg) (c : Code) (st : St) : St :=
  match firstRegion c with
  | some i => match cfg.keep.lookup i with
    | some (ks, ls) => { st with env := pickE st.env ks, lo := pickL st.lo ls }
    | none => st
  | none => st

def norm (cfg : Cfg) (c : Code) (st : St) : St :=
  match firstRegion c with
  | some i => bif cfg.gc.contains i then gcS (norm0 cfg c st) else norm0 cfg c st
  | none => norm0 cfg c st

def loopA (nm : St → St) (body : St → Option (Ex × St)) : Nat → St → Option (Ex × St)
  | 0, _ => none
  | n + 1, st => match body (nm st) with
    | some (.normal, st) => loopA nm body n st
    | r => r

def evalC (n : Nat) (rec : Rec) (cfg : Cfg) : Code → St → Option (Ex × St)
  | .skip, st => some (.normal, st)
  | .region _ ops draw, st => (region T rec cfg ops draw st).map fun st => (.normal, st)
  | .seq a b, st => match evalC n rec cfg a st with
    | some (.normal, st) => evalC n rec cfg b st
    | r => r
  | .cond c a b, st => match opd st.env c with
    | some (.bool t) => if t then evalC n rec cfg a st else evalC n rec cfg b st
    | _ => none
  | .block id c, st => match evalC n rec cfg c st with
    | some (.exit i, st) => if i = id then some (.normal, st) else some (.exit i, st)
    | r => r
  | .loop c, st => loopA (norm cfg c) (evalC n rec cfg c) n st
  | .exit id, st => some (.exit id, st)
  | .ret, st => some (.ret, st)
  | _, _ => none

/-! ### functions -/
def dstsOk (n : Nat) (ops : List Oper) : Bool := ops.all fun o => match o.dst with
  | some d => decide (d < n)
  | none => true

def codeOk (n : Nat) : Code → Bool
  | .region _ ops _ => dstsOk n ops.toList
  | .seq a b | .cond _ a b => codeOk n a && codeOk n b
  | .block _ c | .loop c => codeOk n c
  | _ => true

def zipEnv : List AV → Nat → List (Nat × AV)
  | [], _ => []
  | v :: l, i => (i, v) :: zipEnv l (i + 1)

def resA (st : St) : ResultVar → Option AV
  | .tmp t => some (get st.env t)
  | .cell a t => loadA T st.lo st.hp t (get st.env a)

def resAs (st : St) : List ResultVar → Option (List AV)
  | [] => some []
  | r :: l => match resA T st r, resAs st l with
    | some v, some vs => some (v :: vs)
    | _, _ => none

/-- what is handed back: of the heap, what was there, and what the result names -/
def out (st : St) (r : AV) : AV × List Blk × Nat :=
  bif st.cl then
    match refs r with
    | [] => (r, st.hp.take st.n0, st.n0)
    | _ => match tops r with
      | some [k] =>
        if st.n0 ≤ k then
          match st.hp[k]? with
          | some b => match refsR b.rows with
            | [] => (ren k st.n0 r, st.hp.take st.n0 ++ [b], st.n0)
            | _ => (r, st.hp, st.n0)
          | none => (r, st.hp, st.n0)
        else (r, st.hp.take st.n0, st.n0)
      | _ => (r, st.hp, st.n0)
  else (r, st.hp, 0)

/-- the same, where the heap that was there is handed on as it came -/
def outN (hp0 : List Blk) (st : St) (r : AV) : AV × List Blk × Nat :=
  bif st.cl then
    match refs r with
    | [] => (r, hp0, st.n0)
    | _ => match tops r with
      | some [k] =>
        if st.n0 ≤ k then
          match st.hp[k]? with
          | some b => match refsR b.rows with
            | [] => (ren k st.n0 r, hp0 ++ [b], st.n0)
            | _ => (r, st.hp, st.n0)
          | none => (r, st.hp, st.n0)
        else (r, hp0, st.n0)
      | _ => (r, st.hp, st.n0)
  else (r, st.hp, 0)

def one : List AV → AV
  | [v] => v
  | vs => .tup vs

def finish (fn : Func) (hp0 : List Blk) (st : St) : Option (AV × List Blk × Nat) :=
  (resAs T st fn.results.toList).bind fun vs => bif allNoL vs then some (outN hp0 st (one vs)) else none

def enterA (vs : List AV) (hp : List Blk) : St := { env := zipEnv vs 0, lo := [], hp := hp, n0 := hp.length, cl := true }

end

/-- the settings of all functions, and what is told of calls beforehand -/
structure Cfgs where
  of : Nat → Cfg
  ora : Rec
instance : CoeFun Cfgs fun _ => Nat → Cfg := ⟨Cfgs.of⟩

/-- f called with 'vs', at most n rounds of any loop and n calls deep -/
def evalF (P : Program) (cfg : Cfgs) : Nat → Rec
  | 0, _, _, _ => none
  | n + 1, f, vs, hp =>
    match cfg.ora f vs hp with
    | some y => some y
    | none =>
    match P.funcs[f]? with
    | some fn => match fn.body with
      | some c =>
        bif codeOk (max fn.ntmps vs.length) c then
          match evalC (tiOf P) n (evalF P cfg n) (cfg f) c (enterA vs hp) with
          | some (.normal, st) | some (.ret, st) => finish (tiOf P) fn hp st
          | _ => none
        else none
      | none => none
    | none => none

end Go.Proofs.Ythbmlioknnhleaa.Abs

/- The abstract machine without a bound on its rounds: equations. -/
namespace Go.Proofs.Ythbmlioknnhleaa.Abs
open Go

def LeO {α : Type} (a b : Option α) : Prop := ∀ r, a = some r → b = some r
theorem LeO.refl {α : Type} (a : Option α) : LeO a a := fun _ h => h
theorem LeO.none {α : Type} (b : Option α) : LeO Option.none b := fun _ h => by cases h
theorem LeO.bind {α β : Type} {a a' : Option α} {f f' : α → Option β} (h : LeO a a') (k : ∀ x, LeO (f x) (f' x)) : LeO (a.bind f) (a'.bind f') := by
  intro r hr
  cases a with
  | none => cases hr
  | some x => rw [h x rfl]; exact k x r hr
theorem LeO.map {α β : Type} {a a' : Option α} (f : α → β) (h : LeO a a') : LeO (a.map f) (a'.map f) := by
  intro r hr
  cases a with
  | none => cases hr
  | some x => rw [h x rfl]; exact hr
theorem ext_some {α : Type} {a b : Option α} (h : ∀ r, a = some r ↔ b = some r) : a = b := by
  cases a with
  | none => cases b with
    | none => rfl
    | some y => exact ((h y).2 rfl)
  | some x => exact ((h x).1 rfl).symm

def LeR (r r' : Rec) : Prop := ∀ f vs hp, LeO (r f vs hp) (r' f vs hp)

section
variable {T : Nat → Option TI}

theorem callA_mono {r r' : Rec} (h : LeR r r') (hp : List Blk) (n0 f : Nat) (vs : List AV) : LeO (callA r hp n0 f vs) (callA r' hp n0 f vs) := by
  unfold callA
  cases allNoL vs with
  | false => exact LeO.refl _
  | true => exact LeO.map _ (h f vs hp)

theorem eff_mono {r r' : Rec} (h : LeR r r') (cfg : Cfg) (o : Oper) (st : St) : LeO (eff T r cfg o st) (eff T r' cfg o st) := by
  unfold eff
  cases o.op with
  | call c =>
    refine LeO.bind (LeO.refl _) fun vs => ?_
    cases hc : c.callee with
    | value x =>
      cases x with
      | func f => exact callA_mono h _ _ _ _
      | _ =>
        refine LeO.bind (LeO.refl _) fun v => ?_
        cases v <;> first | exact LeO.refl _ | exact callA_mono h _ _ _ _
    | _ => exact LeO.refl _
  | _ => exact LeO.refl _

/-- what a call gives comes from some bound -/
theorem eff_lim {g : Nat → Rec} {r : Rec} (h : ∀ f vs hp x, r f vs hp = some x → ∃ n, g n f vs hp = some x) (cfg : Cfg) (o : Oper) (st : St) (e : Eff)
    (he : eff T r cfg o st = some e) : ∃ n, eff T (g n) cfg o st = some e := by
  have call : ∀ hp n0 f vs e, callA r hp n0 f vs = some e → ∃ n, callA (g n) hp n0 f vs = some e := by
    intro hp n0 f vs e hc
    unfold callA at hc ⊢
    cases hL : allNoL vs with
    | false => rw [hL] at hc; cases hc
    | true =>
      rw [hL] at hc
      simp only [cond_true, Option.map_eq_some_iff] at hc
      obtain ⟨x, hx, rfl⟩ := hc
      obtain ⟨n, hn⟩ := h _ _ _ _ hx
      exact ⟨n, by simp [hn]⟩
  unfold eff at he ⊢
  cases ho : o.op with
  | call c =>
    rw [ho] at he
    simp only at he ⊢
    cases ha : args st.env c.args.toList with
    | none => rw [ha] at he; cases he
    | some vs =>
      rw [ha] at he
      simp only [Option.bind_some] at he ⊢
      cases hc : c.callee with
      | value x =>
        rw [hc] at he
        cases x with
        | func f => exact call _ _ _ _ _ he
        | tmp t =>
          simp only at he ⊢
          cases hv : opd st.env (.tmp t) with
          | none => rw [hv] at he; cases he
          | some v =>
            rw [hv] at he
            simp only [Option.bind_some] at he ⊢
            cases v with
            | fn f caps => exact call _ _ _ _ _ he
            | _ => cases he
        | const k =>
          simp only at he ⊢
          cases hv : opd st.env (.const k) with
          | none => rw [hv] at he; cases he
          | some v =>
            rw [hv] at he
            simp only [Option.bind_some] at he ⊢
            cases v with
            | fn f caps => exact call _ _ _ _ _ he
            | _ => cases he
        | global k => simp [opd] at he
      | _ => exact ⟨0, by rw [hc] at he; exact he⟩
  | _ => exact ⟨0, by rw [ho] at he; exact he⟩

theorem stepA_mono {r r' : Rec} (h : LeR r r') (cfg : Cfg) (ops : Array Oper) (o : Oper) (st : St) : LeO (stepA T r cfg ops o st) (stepA T r' cfg ops o st) := by
  unfold stepA
  refine LeO.bind (LeO.refl _) fun g => ?_
  cases g with
  | true => exact LeO.map _ (eff_mono h _ _ _)
  | false => exact LeO.refl _

theorem runOps_mono {r r' : Rec} (h : LeR r r') (cfg : Cfg) (ops : Array Oper) (l : List Oper) : ∀ st, LeO (runOps T r cfg ops l st) (runOps T r' cfg ops l st) := by
  induction l with
  | nil => exact fun st => LeO.refl _
  | cons o l ih => exact fun st => LeO.bind (stepA_mono h _ _ _ _) fun st => ih st

theorem stepD_mono {r r' : Rec} (h : LeR r r') (cfg : Cfg) (ops : Array Oper) (o : Oper) (st : St) : LeO (stepD T r cfg ops o st) (stepD T r' cfg ops o st) := by
  unfold stepD
  refine LeO.bind (LeO.refl _) fun g => ?_
  cases g with
  | true => exact LeO.bind (eff_mono h _ _ _) fun _ => LeO.refl _
  | false => exact LeO.refl _

theorem runD_mono {r r' : Rec} (h : LeR r r') (cfg : Cfg) (ops : Array Oper) (l : List Oper) : ∀ st, LeO (runD T r cfg ops l st) (runD T r' cfg ops l st) := by
  induction l with
  | nil => exact fun st => LeO.refl _
  | cons o l ih => exact fun st => LeO.bind (stepD_mono h _ _ _ _) fun x => LeO.map _ (ih x.1)

theorem region_mono {r r' : Rec} (h : LeR r r') (cfg : Cfg) (ops : Array Oper) (d : Bool) (st : St) : LeO (region T r cfg ops d st) (region T r' cfg ops d st) := by
  unfold region
  cases d with
  | true => cases orderOk ops with
    | true => exact LeO.bind (runD_mono h _ _ _ _) fun _ => LeO.refl _
    | false => exact LeO.refl _
  | false => exact runOps_mono h _ _ _ _

variable {g : Nat → Rec} {r : Rec}

theorem LeR.chain (hg : ∀ n, LeR (g n) (g (n + 1))) {n m : Nat} (h : n ≤ m) : LeR (g n) (g m) := by
  induction h with
  | refl => exact fun _ _ _ => LeO.refl _
  | step _ ih => exact fun f vs hp x hx => hg _ f vs hp x (ih f vs hp x hx)

theorem runOps_lim (hg : ∀ n, LeR (g n) (g (n + 1))) (h : ∀ f vs hp x, r f vs hp = some x → ∃ n, g n f vs hp = some x) (cfg : Cfg) (ops : Array Oper) (l : List Oper) :
    ∀ st st', runOps T r cfg ops l st = some st' → ∃ n, runOps T (g n) cfg ops l st = some st' := by
  induction l with
  | nil => exact fun st st' hs => ⟨0, hs⟩
  | cons o l ih =>
    intro st st' hs
    simp only [runOps, Option.bind_eq_some_iff] at hs
    obtain ⟨s1, h1, h2⟩ := hs
    obtain ⟨m, hm⟩ := ih _ _ h2
    have hstep : ∃ n, stepA T (g n) cfg ops o st = some s1 := by
      unfold stepA at h1 ⊢
      cases hgd : guardA ops o st with
      | none => rw [hgd] at h1; cases h1
      | some b =>
        rw [hgd] at h1
        simp only [Option.bind_some] at h1 ⊢
        cases b with
        | false => exact ⟨0, h1⟩
        | true =>
          simp only [cond_true, Option.map_eq_some_iff] at h1
          obtain ⟨e, he, rfl⟩ := h1
          obtain ⟨n, hn⟩ := eff_lim h _ _ _ _ he
          exact ⟨n, by simp [hn]⟩
    obtain ⟨n, hn⟩ := hstep
    refine ⟨max n m, ?_⟩
    simp only [runOps]
    rw [stepA_mono (LeR.chain hg (Nat.le_max_left n m)) _ _ _ _ _ hn]
    exact runOps_mono (LeR.chain hg (Nat.le_max_right n m)) _ _ _ _ _ hm

theorem runD_lim (hg : ∀ n, LeR (g n) (g (n + 1))) (h : ∀ f vs hp x, r f vs hp = some x → ∃ n, g n f vs hp = some x) (cfg : Cfg) (ops : Array Oper) (l : List Oper) :
    ∀ st st', runD T r cfg ops l st = some st' → ∃ n, runD T (g n) cfg ops l st = some st' := by
  induction l with
  | nil => exact fun st st' hs => ⟨0, hs⟩
  | cons o l ih =>
    intro st st' hs
    simp only [runD, Option.bind_eq_some_iff, Option.map_eq_some_iff] at hs
    obtain ⟨⟨s1, f1⟩, h1, ⟨s2, fs⟩, h2, rfl⟩ := hs
    obtain ⟨m, hm⟩ := ih _ _ h2
    have hstep : ∃ n, stepD T (g n) cfg ops o st = some (s1, f1) := by
      unfold stepD at h1 ⊢
      cases hgd : guardA ops o st with
      | none => rw [hgd] at h1; cases h1
      | some b =>
        rw [hgd] at h1
        simp only [Option.bind_some] at h1 ⊢
        cases b with
        | false => exact ⟨0, h1⟩
        | true =>
          simp only [cond_true, Option.bind_eq_some_iff] at h1
          obtain ⟨e, he, h3⟩ := h1
          obtain ⟨n, hn⟩ := eff_lim h _ _ _ _ he
          exact ⟨n, by simp [hn, h3]⟩
    obtain ⟨n, hn⟩ := hstep
    refine ⟨max n m, ?_⟩
    simp only [runD]
    rw [stepD_mono (LeR.chain hg (Nat.le_max_left n m)) _ _ _ _ _ hn]
    simp only [Option.bind_some]
    rw [runD_mono (LeR.chain hg (Nat.le_max_right n m)) _ _ _ _ _ hm]
    rfl

theorem region_lim (hg : ∀ n, LeR (g n) (g (n + 1))) (h : ∀ f vs hp x, r f vs hp = some x → ∃ n, g n f vs hp = some x) (cfg : Cfg) (ops : Array Oper) (d : Bool)
    (st st' : St) (hs : region T r cfg ops d st = some st') : ∃ n, region T (g n) cfg ops d st = some st' := by
  unfold region at hs ⊢
  cases d with
  | false => exact runOps_lim hg h _ _ _ _ _ hs
  | true =>
    cases ho : orderOk ops with
    | false => rw [ho] at hs; cases hs
    | true =>
      rw [ho] at hs
      simp only [cond_true, Option.bind_eq_some_iff] at hs ⊢
      obtain ⟨x, hx, h2⟩ := hs
      obtain ⟨n, hn⟩ := runD_lim hg h _ _ _ _ _ hx
      exact ⟨n, x, hn, h2⟩

theorem loopA_mono {nm : St → St} {b b' : St → Option (Ex × St)} (h : ∀ st, LeO (b st) (b' st)) (n : Nat) : ∀ st, LeO (loopA nm b n st) (loopA nm b' (n + 1) st) := by
  induction n with
  | zero => exact fun st => LeO.none _
  | succ n ih =>
    intro st x hx
    rw [loopA] at hx ⊢
    cases hb : b (nm st) with
    | none => rw [hb] at hx; cases hx
    | some p =>
      rw [h _ _ hb]
      rw [hb] at hx
      obtain ⟨e, s⟩ := p
      cases e with
      | normal => exact ih _ _ hx
      | _ => exact hx

theorem evalC_mono {r r' : Rec} (h : LeR r r') (n : Nat) (cfg : Cfg) (c : Code) : ∀ st, LeO (evalC T n r cfg c st) (evalC T (n + 1) r' cfg c st) := by
  induction c with
  | region id ops d => exact fun st => LeO.map _ (region_mono h _ _ _ _)
  | seq a b iha ihb =>
    intro st x hx
    simp only [evalC] at hx ⊢
    cases ha : evalC T n r cfg a st with
    | none => rw [ha] at hx; cases hx
    | some p =>
      rw [iha _ _ ha]
      rw [ha] at hx
      obtain ⟨e, s⟩ := p
      cases e with
      | normal => exact ihb _ _ hx
      | _ => exact hx
  | cond c a b iha ihb =>
    intro st x hx
    simp only [evalC] at hx ⊢
    split at hx
    · rename_i t ht
      cases t with
      | true => exact iha _ _ hx
      | false => exact ihb _ _ hx
    · cases hx
  | block id c ih =>
    intro st x hx
    simp only [evalC] at hx ⊢
    cases hc : evalC T n r cfg c st with
    | none => rw [hc] at hx; cases hx
    | some p =>
      rw [ih _ _ hc]
      rw [hc] at hx
      exact hx
  | loop c ih => exact fun st => loopA_mono ih n st
  | _ => exact fun st => LeO.refl _

end

theorem evalF_succ (P : Program) (cfg : Cfgs) (n f : Nat) (vs : List AV) (hp : List Blk) : evalF P cfg (n + 1) f vs hp = match cfg.ora f vs hp with
    | some y => some y
    | none => match P.funcs[f]? with
      | some fn => match fn.body with
        | some c =>
          bif codeOk (max fn.ntmps vs.length) c then
            match evalC (tiOf P) n (evalF P cfg n) (cfg f) c (enterA vs hp) with
            | some (.normal, st) | some (.ret, st) => finish (tiOf P) fn hp st
            | _ => none
          else none
        | none => none
      | none => none := rfl

theorem evalF_mono (P : Program) (cfg : Cfgs) : ∀ n, LeR (evalF P cfg n) (evalF P cfg (n + 1))
  | 0 => fun _ _ _ => LeO.none _
  | n + 1 => by
    intro f vs hp x hx
    rw [evalF_succ] at hx ⊢
    cases ho : cfg.ora f vs hp with
    | some y => rw [ho] at hx; exact hx
    | none =>
      rw [ho] at hx
      simp only at hx ⊢
      split at hx
      · split at hx
        · cases hk : codeOk (max _ vs.length) _ with
          | false => rw [hk] at hx; cases hx
          | true =>
            rw [hk] at hx
            simp only [cond_true] at hx ⊢
            split at hx
            · rename_i hs; rw [evalC_mono (evalF_mono P cfg n) _ _ _ _ _ hs]; exact hx
            · rename_i hs; rw [evalC_mono (evalF_mono P cfg n) _ _ _ _ _ hs]; exact hx
            · cases hx
        · cases hx
      · cases hx

/-- what a chain comes to -/
noncomputable def lim {α : Type} (g : Nat → Option α) : Option α :=
  open Classical in if h : ∃ n r, g n = some r then g h.choose else none
theorem lim_some {α : Type} {g : Nat → Option α} (hg : ∀ n, LeO (g n) (g (n + 1))) {x : α} : lim g = some x ↔ ∃ n, g n = some x := by
  have up : ∀ n m, n ≤ m → LeO (g n) (g m) := by
    intro n m h
    induction h with
    | refl => exact LeO.refl _
    | step _ ih => exact fun r hr => hg _ _ (ih _ hr)
  unfold lim
  constructor
  · intro h
    split at h
    · rename_i hx; exact ⟨_, h⟩
    · cases h
  · rintro ⟨n, hn⟩
    have hx : ∃ n r, g n = some r := ⟨n, x, hn⟩
    rw [dif_pos hx]
    obtain ⟨r, hr⟩ := hx.choose_spec
    have h1 := up _ _ (Nat.le_max_left n hx.choose) _ hn
    have h2 := up _ _ (Nat.le_max_right n hx.choose) _ hr
    rw [hr, ← h2, h1]

section
variable (P : Program) (cfg : Cfgs)

noncomputable def runF : Rec := fun f vs hp => lim fun n => evalF P cfg n f vs hp
noncomputable def runC (c : Cfg) (k : Code) (st : St) : Option (Ex × St) := lim fun n => evalC (tiOf P) n (evalF P cfg n) c k st

theorem runF_some {f : Nat} {vs : List AV} {hp : List Blk} {x : AV × List Blk × Nat} : runF P cfg f vs hp = some x ↔ ∃ n, evalF P cfg n f vs hp = some x :=
  lim_some fun n => evalF_mono P cfg n f vs hp
theorem runC_some {c : Cfg} {k : Code} {st : St} {x : Ex × St} : runC P cfg c k st = some x ↔ ∃ n, evalC (tiOf P) n (evalF P cfg n) c k st = some x :=
  lim_some fun n => evalC_mono (evalF_mono P cfg n) n c k st
theorem up_C {c : Cfg} {k : Code} {st : St} {x : Ex × St} {n m : Nat} (hm : n ≤ m) (h : evalC (tiOf P) n (evalF P cfg n) c k st = some x) : evalC (tiOf P) m (evalF P cfg m) c k st = some x := by
  induction hm with
  | refl => exact h
  | step _ ih => exact evalC_mono (evalF_mono P cfg _) _ _ _ _ _ ih

variable {P} {cfg}
variable {c : Cfg} {st : St}

theorem runC_skip : runC P cfg c .skip st = some (.normal, st) := (runC_some P cfg).2 ⟨0, rfl⟩
theorem runC_exit {i : Nat} : runC P cfg c (.exit i) st = some (.exit i, st) := (runC_some P cfg).2 ⟨0, rfl⟩
theorem runC_ret : runC P cfg c .ret st = some (.ret, st) := (runC_some P cfg).2 ⟨0, rfl⟩
theorem runC_region {i : Nat} {ops : Array Oper} {d : Bool} : runC P cfg c (.region i ops d) st = (region (tiOf P) (runF P cfg) c ops d st).map fun st => (.normal, st) := by
  refine ext_some fun x => ?_
  rw [runC_some]
  simp only [evalC, Option.map_eq_some_iff]
  constructor
  · rintro ⟨n, s, hs, rfl⟩
    exact ⟨s, region_mono (fun f vs hp y hy => (runF_some P cfg).2 ⟨n, hy⟩) _ _ _ _ _ hs, rfl⟩
  · rintro ⟨s, hs, rfl⟩
    obtain ⟨n, hn⟩ := region_lim (evalF_mono P cfg) (fun f vs hp y hy => (runF_some P cfg).1 hy) _ _ _ _ _ hs
    exact ⟨n, s, hn, rfl⟩
theorem runC_seq {a b : Code} : runC P cfg c (.seq a b) st = match runC P cfg c a st with
    | some (.normal, st) => runC P cfg c b st
    | r => r := by
  refine ext_some fun x => ?_
  rw [runC_some]
  constructor
  · rintro ⟨n, hn⟩
    simp only [evalC] at hn
    cases ha : evalC (tiOf P) n (evalF P cfg n) c a st with
    | none => rw [ha] at hn; cases hn
    | some p =>
      rw [ha] at hn
      rw [(runC_some P cfg).2 ⟨n, ha⟩]
      obtain ⟨e, s⟩ := p
      cases e with
      | normal => exact (runC_some P cfg).2 ⟨n, hn⟩
      | _ => exact hn
  · intro h
    cases ha : runC P cfg c a st with
    | none => rw [ha] at h; cases h
    | some p =>
      rw [ha] at h
      obtain ⟨n, hn⟩ := (runC_some P cfg).1 ha
      obtain ⟨e, s⟩ := p
      cases e with
      | normal =>
        obtain ⟨m, hm⟩ := (runC_some P cfg).1 h
        refine ⟨max n m, ?_⟩
        simp only [evalC]
        rw [up_C P cfg (Nat.le_max_left n m) hn]
        exact up_C P cfg (Nat.le_max_right n m) hm
      | _ => exact ⟨n, by simp only [evalC]; rw [hn]; exact h⟩
theorem runC_cond {x : Operand} {a b : Code} : runC P cfg c (.cond x a b) st = match opd st.env x with
    | some (.bool t) => if t then runC P cfg c a st else runC P cfg c b st
    | _ => none := by
  refine ext_some fun y => ?_
  rw [runC_some]
  simp only [evalC]
  split
  · rename_i t ht
    try rw [ht]
    cases t
    · simp only [Bool.false_eq_true, if_false]; exact (runC_some P cfg).symm
    · simp only [if_true]; exact (runC_some P cfg).symm
  · rename_i h
    constructor
    · rintro ⟨n, hn⟩; cases hn
    · intro hn
      first
        | cases hn; done
        | (split at hn
           · rename_i t ht; exact absurd ht (h t)
           · cases hn)
theorem runC_block {i : Nat} {k : Code} : runC P cfg c (.block i k) st = match runC P cfg c k st with
    | some (.exit j, st) => if j = i then some (.normal, st) else some (.exit j, st)
    | r => r := by
  refine ext_some fun x => ?_
  rw [runC_some]
  constructor
  · rintro ⟨n, hn⟩
    simp only [evalC] at hn
    cases ha : evalC (tiOf P) n (evalF P cfg n) c k st with
    | none => rw [ha] at hn; cases hn
    | some p => rw [ha] at hn; rw [(runC_some P cfg).2 ⟨n, ha⟩]; exact hn
  · intro h
    cases ha : runC P cfg c k st with
    | none => rw [ha] at h; cases h
    | some p =>
      rw [ha] at h
      obtain ⟨n, hn⟩ := (runC_some P cfg).1 ha
      exact ⟨n, by simp only [evalC]; rw [hn]; exact h⟩
theorem runC_loop {k : Code} : runC P cfg c (.loop k) st = match runC P cfg c k (norm c k st) with
    | some (.normal, st) => runC P cfg c (.loop k) st
    | r => r := by
  refine ext_some fun x => ?_
  rw [runC_some]
  constructor
  · rintro ⟨n, hn⟩
    simp only [evalC] at hn
    cases n with
    | zero => cases hn
    | succ n =>
      rw [loopA] at hn
      cases ha : evalC (tiOf P) (n + 1) (evalF P cfg (n + 1)) c k (norm c k st) with
      | none => rw [ha] at hn; cases hn
      | some p =>
        rw [ha] at hn
        rw [(runC_some P cfg).2 ⟨n + 1, ha⟩]
        obtain ⟨e, s⟩ := p
        cases e with
        | normal => exact (runC_some P cfg).2 ⟨n + 1, by simp only [evalC]; exact loopA_mono (fun st => LeO.refl _) n s x hn⟩
        | _ => exact hn
  · intro h
    cases ha : runC P cfg c k (norm c k st) with
    | none => rw [ha] at h; cases h
    | some p =>
      rw [ha] at h
      obtain ⟨n, hn⟩ := (runC_some P cfg).1 ha
      obtain ⟨e, s⟩ := p
      cases e with
      | normal =>
        obtain ⟨m, hm⟩ := (runC_some P cfg).1 h
        have h1 := up_C P cfg (Nat.le_succ_of_le (Nat.le_max_left n m)) hn
        have h2 := up_C P cfg (Nat.le_max_right n m) hm
        refine ⟨max n m + 1, ?_⟩
        simp only [evalC] at h2 ⊢
        rw [loopA, h1]
        have : ∀ j s, loopA (norm c k) (evalC (tiOf P) (max n m) (evalF P cfg (max n m)) c k) j s = some x → loopA (norm c k) (evalC (tiOf P) (max n m + 1) (evalF P cfg (max n m + 1)) c k) j s = some x := by
          intro j
          induction j with
          | zero => intro s hs; cases hs
          | succ j ih =>
            intro s hs
            rw [loopA] at hs ⊢
            cases hb : evalC (tiOf P) (max n m) (evalF P cfg (max n m)) c k (norm c k s) with
            | none => rw [hb] at hs; cases hs
            | some q =>
              rw [hb] at hs
              rw [evalC_mono (evalF_mono P cfg _) _ _ _ _ _ hb]
              obtain ⟨e, s'⟩ := q
              cases e with
              | normal => exact ih _ hs
              | _ => exact hs
        exact this _ _ h2
      | _ => exact ⟨n + 1, by simp only [evalC]; rw [loopA, up_C P cfg (Nat.le_succ n) hn]; exact h⟩

theorem runF_eq {f : Nat} {fn : Func} {k : Code} {vs : List AV} {hp : List Blk} (hf : P.funcs[f]? = some fn) (hb : fn.body = some k) (hk : codeOk (max fn.ntmps vs.length) k = true) (ho : cfg.ora f vs hp = none) :
    runF P cfg f vs hp = match runC P cfg (cfg f) k (enterA vs hp) with
    | some (.normal, st) | some (.ret, st) => finish (tiOf P) fn hp st
    | _ => none := by
  refine ext_some fun x => ?_
  rw [runF_some]
  constructor
  · rintro ⟨n, hn⟩
    cases n with
    | zero => cases hn
    | succ n =>
      simp only [evalF, ho, hf, hb, hk, cond_true] at hn
      cases ha : evalC (tiOf P) n (evalF P cfg n) (cfg f) k (enterA vs hp) with
      | none => rw [ha] at hn; cases hn
      | some p => rw [ha] at hn; rw [(runC_some P cfg).2 ⟨n, ha⟩]; exact hn
  · intro h
    cases ha : runC P cfg (cfg f) k (enterA vs hp) with
    | none => rw [ha] at h; cases h
    | some p =>
      rw [ha] at h
      obtain ⟨n, hn⟩ := (runC_some P cfg).1 ha
      exact ⟨n + 1, by simp only [evalF, ho, hf, hb, hk, cond_true]; rw [hn]; exact h⟩

theorem runF_ora {f : Nat} {vs : List AV} {hp : List Blk} {y : AV × List Blk × Nat} (ho : cfg.ora f vs hp = some y) : runF P cfg f vs hp = some y :=
  (runF_some P cfg).2 ⟨1, by simp only [evalF, ho]⟩

end
end Go.Proofs.Ythbmlioknnhleaa.Abs

/- The abstract machine's states and the model's worlds: how they are held together, and how that is kept. -/
namespace Go.Proofs.Ythbmlioknnhleaa.Abs
open Go

structure Plc where
  blk : Nat
  n : Nat

abbrev Mem := Nat → Option Obj
abbrev Rho := Nat → Option Plc

/-- a scalar, told -/
def Sc : AV → Value → Prop
  | .int k n, v => v = .int k n
  | .bool b, v => v = .bool b
  | .str s, v => v = .string s
  | _, _ => False

def OneIn (c : Array Value) (o n : Nat) : Prop := ∀ (j : Nat) (u : Value), j < n → c[o + j]? = some u → u.oneCell' = true
def One (c : Array Value) : Prop := ∀ (j : Nat) (u : Value), c[j]? = some u → u.oneCell' = true

/-- 'v' is what the machine tells by 'x'; M: blocks that are never written; ρ: where the heap's blocks lie. -/
inductive VRel (M : Mem) (ρ : Rho) (hp : List Blk) : AV → Value → Prop
  | undef (v : Value) : VRel M ρ hp .undef v
  | bool (b : Bool) : VRel M ρ hp (.bool b) (.bool b)
  | int (k : IntKind) (n : Int) : VRel M ρ hp (.int k n) (.int k n)
  | str (s : ByteArray) : VRel M ρ hp (.str s) (.string s)
  | ptr {k r c t : Nat} {v : Value} {b : Blk} {l : Plc} (hb : hp[k]? = some b) (hl : ρ k = some l) (ht : t ≤ b.rows.length) (ho : v.oneCell' = true)
      (h : t = b.rows.length → v = .pointer (some ⟨l.blk, r * b.sz + c, none⟩)) : VRel M ρ hp (.ptr k r c t) v
  | nilptr : VRel M ρ hp .nilptr (.pointer none)
  | sl {k r n t : Nat} {v : Value} {b : Blk} {l : Plc} (hb : hp[k]? = some b) (hl : ρ k = some l) (ht : t ≤ b.rows.length) (ho : v.oneCell' = true)
      (h : t = b.rows.length → ∃ off cap, v = .slice (some ⟨l.blk, off, none⟩) n cap ∧ n ≤ cap ∧ (0 < n ∨ r = 0 → off = r * b.sz) ∧ (r = 0 → cap * b.sz = l.n)) : VRel M ρ hp (.sl k r n t) v
  | ssl {k r c n t : Nat} {v : Value} {b : Blk} {l : Plc} (hb : hp[k]? = some b) (hl : ρ k = some l) (ht : t ≤ b.rows.length) (ho : v.oneCell' = true)
      (h : t = b.rows.length → ∃ off cap, v = .slice (some ⟨l.blk, off, none⟩) n cap ∧ n ≤ cap ∧ (0 < n → off = r * b.sz + c)) : VRel M ρ hp (.ssl k r c n t) v
  | vs0 (sz : Nat) (a : Option Addr) (cap : Nat) : VRel M ρ hp (.vs sz []) (.slice a 0 cap)
  | vs {sz : Nat} {rows : List (List AV)} {g off cap : Nat} {c : Array Value} {e : TypeId} {f : Nat × Nat} (hM : M g = some (.cells c e f)) (hone : One c) (hn : rows.length ≤ cap)
      (hlen : ∀ row ∈ rows, row.length = sz) (hin : off + rows.length * sz ≤ c.size)
      (h : ∀ (i : Nat) (row : List AV) (j : Nat) (x : AV) (u : Value), rows[i]? = some row → row[j]? = some x → c[off + i * sz + j]? = some u → VRel M ρ hp x u) :
      VRel M ρ hp (.vs sz rows) (.slice (some ⟨g, off, none⟩) rows.length cap)
  | vp {row : List AV} {q g off : Nat} {c : Array Value} {e : TypeId} {f : Nat × Nat} (hM : M g = some (.cells c e f)) (hone : OneIn c off row.length) (hin : off + row.length ≤ c.size)
      (h : ∀ (j : Nat) (x : AV) (u : Value), row[j]? = some x → c[off + j]? = some u → VRel M ρ hp x u) : VRel M ρ hp (.vp row q) (.pointer (some ⟨g, off + q, none⟩))
  | vf0 (sz : Nat) (f : Nat → List AV) (a : Option Addr) (cap : Nat) : VRel M ρ hp (.vf sz 0 f) (.slice a 0 cap)
  | vf {sz n : Nat} {f : Nat → List AV} {g off cap : Nat} {c : Array Value} {e : TypeId} {fl : Nat × Nat} (hM : M g = some (.cells c e fl)) (hn : n ≤ cap)
      (hlen : ∀ i, i < n → (f i).length = sz) (hin : off + n * sz ≤ c.size)
      (h : ∀ (i j : Nat) (x : AV) (u : Value), i < n → (f i)[j]? = some x → c[off + i * sz + j]? = some u → Sc x u) :
      VRel M ρ hp (.vf sz n f) (.slice (some ⟨g, off, none⟩) n cap)
  | vi {k : IntKind} {sz n : Nat} {q : Nat → Nat → Int} {v : Value} (h : VRel M ρ hp (.vf sz n fun i => cellsI k sz (q i)) v) (hz : n = 0 → q 0 0 = 0 → ∀ m c, v ≠ .slice none m c) : VRel M ρ hp (.vi k sz n q) v
  | vm0 (m : Nat → Nat) (q : Nat → Nat → Int) (a : Option Addr) (cap : Nat) : VRel M ρ hp (.vm 0 m q) (.slice a 0 cap)
  | vm {n : Nat} {m : Nat → Nat} {q : Nat → Nat → Int} {g off cap : Nat} {c : Array Value} {e : TypeId} {fl : Nat × Nat} (hM : M g = some (.cells c e fl)) (hn : n ≤ cap)
      (hin : off + n ≤ c.size) (h : ∀ (i : Nat) (u : Value), i < n → c[off + i]? = some u → VRel M ρ hp (.vi .i64 1 (m i) fun j _ => q i j) u) :
      VRel M ρ hp (.vm n m q) (.slice (some ⟨g, off, none⟩) n cap)
  | esl (a : Option Addr) : VRel M ρ hp .esl (.slice a 0 0)
  | nilsl : VRel M ρ hp .nilsl (.slice none 0 0)
  | fn {f : Nat} {caps : List AV} {c : Array Value} (hs : c.size = caps.length) (h : ∀ (j : Nat) (x : AV) (u : Value), caps[j]? = some x → c[j]? = some u → VRel M ρ hp x u) :
      VRel M ρ hp (.fn f caps) (.func (.func f) #[] c)
  | agg {cs : List AV} {c : Array Value} (hs : c.size = cs.length) (hone : One c) (h : ∀ (j : Nat) (x : AV) (u : Value), cs[j]? = some x → c[j]? = some u → VRel M ρ hp x u) : VRel M ρ hp (.agg cs) (.agg c)
  | tup {vs : List AV} {c : Array Value} (hs : c.size = vs.length) (h : ∀ (j : Nat) (x : AV) (u : Value), vs[j]? = some x → c[j]? = some u → VRel M ρ hp x u) : VRel M ρ hp (.tup vs) (.tuple c)

def SubM (M M' : Mem) : Prop := ∀ g o, M g = some o → M' g = some o
theorem SubM.refl (M : Mem) : SubM M M := fun _ _ h => h
theorem SubM.trans {M M' M'' : Mem} (h : SubM M M') (k : SubM M' M'') : SubM M M'' := fun g o x => k g o (h g o x)

def Ext (ρ : Rho) (hp : List Blk) (ρ' : Rho) (hp' : List Blk) : Prop :=
  ∀ k b l, hp[k]? = some b → ρ k = some l → ∃ b' l', hp'[k]? = some b' ∧ ρ' k = some l' ∧ b'.sz = b.sz ∧ b.rows.length ≤ b'.rows.length ∧ (b'.rows.length = b.rows.length → l' = l)
theorem Ext.refl (ρ : Rho) (hp : List Blk) : Ext ρ hp ρ hp := fun _ b l hb hl => ⟨b, l, hb, hl, rfl, Nat.le_refl _, fun _ => rfl⟩
theorem Ext.trans {ρ ρ' ρ'' : Rho} {hp hp' hp'' : List Blk} (h : Ext ρ hp ρ' hp') (k : Ext ρ' hp' ρ'' hp'') : Ext ρ hp ρ'' hp'' := by
  intro i b l hb hl
  obtain ⟨b1, l1, hb1, hl1, hs1, hr1, he1⟩ := h i b l hb hl
  obtain ⟨b2, l2, hb2, hl2, hs2, hr2, he2⟩ := k i b1 l1 hb1 hl1
  exact ⟨b2, l2, hb2, hl2, hs2.trans hs1, Nat.le_trans hr1 hr2, fun he => (he2 (by omega)).trans (he1 (by omega))⟩

theorem VRel.mono {M M' : Mem} {ρ ρ' : Rho} {hp hp' : List Blk} {x : AV} {v : Value} (h : VRel M ρ hp x v) (hM : SubM M M') (hE : Ext ρ hp ρ' hp') : VRel M' ρ' hp' x v := by
  induction h with
  | undef v => exact .undef v
  | bool b => exact .bool b
  | int k n => exact .int k n
  | str s => exact .str s
  | ptr hb hl ht ho h =>
    obtain ⟨b', l', hb', hl', hs, hr, he⟩ := hE _ _ _ hb hl
    refine .ptr hb' hl' (by omega) ho fun ht' => ?_
    have e := he (by omega)
    rw [e, hs]
    exact h (by omega)
  | nilptr => exact .nilptr
  | sl hb hl ht ho h =>
    obtain ⟨b', l', hb', hl', hs, hr, he⟩ := hE _ _ _ hb hl
    refine .sl hb' hl' (by omega) ho fun ht' => ?_
    have e := he (by omega)
    rw [e, hs]
    exact h (by omega)
  | ssl hb hl ht ho h =>
    obtain ⟨b', l', hb', hl', hs, hr, he⟩ := hE _ _ _ hb hl
    refine .ssl hb' hl' (by omega) ho fun ht' => ?_
    have e := he (by omega)
    rw [e, hs]
    exact h (by omega)
  | vs0 sz a cap => exact .vs0 sz a cap
  | vs hg hone hn hlen hin _ ih => exact .vs (hM _ _ hg) hone hn hlen hin ih
  | vp hg hone hin _ ih => exact .vp (hM _ _ hg) hone hin ih
  | vf0 sz f a cap => exact .vf0 sz f a cap
  | vf hg hn hlen hin h => exact .vf (hM _ _ hg) hn hlen hin h
  | vi _ hz ih => exact .vi ih hz
  | vm0 m q a cap => exact .vm0 m q a cap
  | vm hg hn hin _ ih => exact .vm (hM _ _ hg) hn hin ih
  | esl a => exact .esl a
  | nilsl => exact .nilsl
  | fn hs _ ih => exact .fn hs ih
  | agg hs hone _ ih => exact .agg hs hone ih
  | tup hs _ ih => exact .tup hs ih

theorem Sc.v {M : Mem} {ρ : Rho} {hp : List Blk} {x : AV} {v : Value} (h : Sc x v) : VRel M ρ hp x v := by
  cases x <;> simp only [Sc] at h <;> first | (subst h; constructor) | exact h.elim

theorem VRel.one {M : Mem} {ρ : Rho} {hp : List Blk} {x : AV} {v : Value} (h : VRel M ρ hp x v) (hx : x.noL = true) (ha : ∀ cs, x ≠ .agg cs) : v.oneCell' = true := by
  cases h <;> first | rfl | assumption | (simp [AV.noL] at hx; done) | (rename_i h'; cases h' <;> rfl) | (rename_i h' _; cases h' <;> rfl) | exact absurd rfl (ha _)

theorem Sc.one {x : AV} {v : Value} (h : Sc x v) : v.oneCell' = true := by
  cases x <;> simp only [Sc] at h <;> first | (subst h; rfl) | exact h.elim

/-- a block of cells holds these rows -/
def RowsIn (M : Mem) (ρ : Rho) (hp : List Blk) (sz : Nat) (rows : List (List AV)) (c : Array Value) : Prop :=
  ∀ (i : Nat) (row : List AV) (j : Nat) (x : AV) (u : Value), rows[i]? = some row → row[j]? = some x → c[i * sz + j]? = some u → VRel M ρ hp x u
def CellsIn (M : Mem) (ρ : Rho) (hp : List Blk) (cs : List AV) (c : Array Value) : Prop :=
  ∀ (j : Nat) (x : AV) (u : Value), cs[j]? = some x → c[j]? = some u → VRel M ρ hp x u
theorem RowsIn.mono {M M' : Mem} {ρ ρ' : Rho} {hp hp' : List Blk} {sz : Nat} {rows : List (List AV)} {c : Array Value} (h : RowsIn M ρ hp sz rows c) (hM : SubM M M') (hE : Ext ρ hp ρ' hp') : RowsIn M' ρ' hp' sz rows c :=
  fun i row j x u h1 h2 h3 => (h i row j x u h1 h2 h3).mono hM hE
theorem CellsIn.mono {M M' : Mem} {ρ ρ' : Rho} {hp hp' : List Blk} {cs : List AV} {c : Array Value} (h : CellsIn M ρ hp cs c) (hM : SubM M M') (hE : Ext ρ hp ρ' hp') : CellsIn M' ρ' hp' cs c :=
  fun j x u h1 h2 => (h j x u h1 h2).mono hM hE

structure BlkAt (M : Mem) (ρ : Rho) (hp : List Blk) (H : Array Obj) (l : Plc) (b : Blk) (c : Array Value) : Prop where
  free : M l.blk = none
  at_ : H[l.blk]? = some (.cells c b.e (0, 0))
  size : c.size = l.n
  pos : 0 < b.sz
  room : b.rows.length * b.sz ≤ l.n
  len : ∀ row ∈ b.rows, row.length = b.sz
  one : One c
  rows : RowsIn M ρ hp b.sz b.rows c

structure VarAt (M : Mem) (ρ : Rho) (hp : List Blk) (H : Array Obj) (g : Nat) (cs : List AV) (c : Array Value) (e : TypeId) : Prop where
  free : M g = none
  at_ : H[g]? = some (.cells c e (0, 0))
  size : c.size = cs.length
  one : One c
  cells : CellsIn M ρ hp cs c

structure Real (M : Mem) (ρ : Rho) (β : Nat → Option Nat) (hp : List Blk) (lo : List (Nat × List AV)) (H : Array Obj) : Prop where
  mem : ∀ g o, M g = some o → H[g]? = some o
  blk : ∀ k b, hp[k]? = some b → ∃ l c, ρ k = some l ∧ BlkAt M ρ hp H l b c
  inj : ∀ k k' l l', ρ k = some l → ρ k' = some l' → l.blk = l'.blk → k = k'
  dom : ∀ k l, ρ k = some l → k < hp.length
  var : ∀ d g cs, β d = some g → lo.lookup d = some cs → ∃ c e, VarAt M ρ hp H g cs c e
  vlt : ∀ d g, β d = some g → g < H.size
  vinj : ∀ d d' g, β d = some g → β d' = some g → d = d'
  vdis : ∀ d g k l, β d = some g → ρ k = some l → l.blk ≠ g

theorem lt_of_at {H : Array Obj} {g : Nat} {o : Obj} (h : H[g]? = some o) : g < H.size := (Array.getElem?_eq_some_iff.1 h).1

theorem Real.plt {M : Mem} {ρ : Rho} {β : Nat → Option Nat} {hp : List Blk} {lo : List (Nat × List AV)} {H : Array Obj} (h : Real M ρ β hp lo H) {k : Nat} {l : Plc} (hl : ρ k = some l) : l.blk < H.size := by
  have hk := h.dom k l hl
  obtain ⟨l', c, hl', hb⟩ := h.blk k _ (List.getElem?_eq_getElem hk)
  rw [hl] at hl'
  cases hl'
  exact lt_of_at hb.at_

def upd {α : Type} (f : Nat → Option α) (k : Nat) (v : α) : Nat → Option α := fun i => if i = k then some v else f i
theorem upd_same {α : Type} (f : Nat → Option α) (k : Nat) (v : α) : upd f k v k = some v := by simp [upd]
theorem upd_ne {α : Type} (f : Nat → Option α) {k i : Nat} (v : α) (h : i ≠ k) : upd f k v i = f i := by simp [upd, h]

section
variable {M : Mem} {ρ : Rho} {β : Nat → Option Nat} {hp : List Blk} {lo : List (Nat × List AV)} {H H' : Array Obj}

theorem lookup_del {α : Type} (d t : Nat) (l : List (Nat × α)) : (del d l).lookup t = if t = d then none else l.lookup t := by
  induction l with
  | nil => simp [del]
  | cons p l ih =>
    obtain ⟨s, v⟩ := p
    simp only [del]
    by_cases hs : s = d
    · subst hs
      simp only [BEq.rfl, cond_true, ih]
      by_cases ht : t = s
      · simp [ht]
      · have : (t == s) = false := by simpa using ht
        simp [ht, List.lookup_cons, this]
    · have h1 : (s == d) = false := by simpa using hs
      simp only [h1, cond_false, List.lookup_cons]
      by_cases ht : t = s
      · subst ht; simp [hs]
      · have : (t == s) = false := by simpa using ht
        simp [this, ih]

theorem lookup_put {α : Type} (d t : Nat) (v : α) (l : List (Nat × α)) : ((d, v) :: del d l).lookup t = if t = d then some v else l.lookup t := by
  rw [List.lookup_cons]
  by_cases h : t = d
  · simp [h]
  · have : (t == d) = false := by simpa using h
    simp [h, this, lookup_del]

/-- Nothing that is told has turned; there may be more. -/
theorem Real.keep (h : Real M ρ β hp lo H) (hsz : H.size ≤ H'.size) (hH : ∀ g, g < H.size → H'[g]? = H[g]?) : Real M ρ β hp lo H' := by
  refine ⟨fun g o hg => ?_, fun k b hb => ?_, h.inj, h.dom, fun d g cs hd hl => ?_, fun d g hd => Nat.lt_of_lt_of_le (h.vlt d g hd) hsz, h.vinj, h.vdis⟩
  · have := h.mem g o hg
    rw [hH g (lt_of_at this)]; exact this
  · obtain ⟨l, c, hl, hb'⟩ := h.blk k b hb
    exact ⟨l, c, hl, { hb' with at_ := by rw [hH _ (lt_of_at hb'.at_)]; exact hb'.at_ }⟩
  · obtain ⟨c, e, hv⟩ := h.var d g cs hd hl
    exact ⟨c, e, { hv with at_ := by rw [hH _ (lt_of_at hv.at_)]; exact hv.at_ }⟩

/-- A new block that is never written. -/
theorem Real.frozen (h : Real M ρ β hp lo H) (o : Obj) : Real (upd M H.size o) ρ β hp lo (H.push o) ∧ SubM M (upd M H.size o) := by
  have hn : ∀ g o', M g = some o' → g ≠ H.size := fun g o' hg => Nat.ne_of_lt (lt_of_at (h.mem g o' hg))
  have hsub : SubM M (upd M H.size o) := fun g o' hg => by rw [upd_ne _ _ (hn g o' hg)]; exact hg
  have hpush : ∀ g, g < H.size → (H.push o)[g]? = H[g]? := fun g hg => by rw [Array.getElem?_push, if_neg (by omega)]
  refine ⟨⟨fun g o' hg => ?_, fun k b hb => ?_, h.inj, h.dom, fun d g cs hd hl => ?_, fun d g hd => by have := h.vlt d g hd; rw [Array.size_push]; omega, h.vinj, h.vdis⟩, hsub⟩
  · by_cases hgs : g = H.size
    · subst hgs; rw [upd_same] at hg; cases hg; simp
    · rw [upd_ne _ _ hgs] at hg
      have := h.mem g o' hg
      rw [hpush g (lt_of_at this)]; exact this
  · obtain ⟨l, c, hl, hb'⟩ := h.blk k b hb
    have hlt := lt_of_at hb'.at_
    exact ⟨l, c, hl, ⟨by rw [upd_ne _ _ (by omega)]; exact hb'.free, by rw [hpush _ hlt]; exact hb'.at_, hb'.size, hb'.pos, hb'.room, hb'.len, hb'.one, hb'.rows.mono hsub (Ext.refl _ _)⟩⟩
  · obtain ⟨c, e, hv⟩ := h.var d g cs hd hl
    have hlt := lt_of_at hv.at_
    exact ⟨c, e, ⟨by rw [upd_ne _ _ (by omega)]; exact hv.free, by rw [hpush _ hlt]; exact hv.at_, hv.size, hv.one, hv.cells.mono hsub (Ext.refl _ _)⟩⟩

theorem Ext.snoc (b : Blk) (l : Plc) : Ext ρ hp (upd ρ hp.length l) (hp ++ [b]) := by
  intro k b' l' hb hl
  have hk : k < hp.length := (List.getElem?_eq_some_iff.1 hb).1
  exact ⟨b', l', by rw [List.getElem?_append_left hk]; exact hb, by rw [upd_ne _ _ (by omega)]; exact hl, rfl, Nat.le_refl _, fun _ => rfl⟩

/-- A new block of the heap. -/
theorem Real.snoc (h : Real M ρ β hp lo H) (b : Blk) (c : Array Value) (hpos : 0 < b.sz) (hroom : b.rows.length * b.sz ≤ c.size) (hlen : ∀ row ∈ b.rows, row.length = b.sz) (hone : One c)
    (hrows : RowsIn M ρ hp b.sz b.rows c) :
    Real M (upd ρ hp.length ⟨H.size, c.size⟩) β (hp ++ [b]) lo (H.push (.cells c b.e (0, 0))) := by
  have hE := Ext.snoc (ρ := ρ) (hp := hp) b ⟨H.size, c.size⟩
  have hpush : ∀ g, g < H.size → (H.push (.cells c b.e (0, 0)))[g]? = H[g]? := fun g hg => by rw [Array.getElem?_push, if_neg (by omega)]
  refine ⟨fun g o hg => ?_, fun k b' hb => ?_, fun k k' l l' hl hl' he => ?_, fun k l hl => ?_, fun d g cs hd hl => ?_, fun d g hd => by have := h.vlt d g hd; rw [Array.size_push]; omega, h.vinj, fun d g k l hd hl => ?_⟩
  · have := h.mem g o hg
    rw [hpush g (lt_of_at this)]; exact this
  · by_cases hk : k < hp.length
    · rw [List.getElem?_append_left hk] at hb
      obtain ⟨l, c', hl, hb'⟩ := h.blk k b' hb
      exact ⟨l, c', by rw [upd_ne _ _ (by omega)]; exact hl, ⟨hb'.free, by rw [hpush _ (lt_of_at hb'.at_)]; exact hb'.at_, hb'.size, hb'.pos, hb'.room, hb'.len, hb'.one, hb'.rows.mono (SubM.refl _) hE⟩⟩
    · have hk' : k = hp.length := by
        have := (List.getElem?_eq_some_iff.1 hb).1
        rw [List.length_append] at this
        simp at this
        omega
      subst hk'
      rw [List.getElem?_append_right (Nat.le_refl _)] at hb
      simp at hb
      subst hb
      refine ⟨_, c, upd_same _ _ _, ⟨?_, by simp, rfl, hpos, hroom, hlen, hone, hrows.mono (SubM.refl _) hE⟩⟩
      cases hM : M H.size with
      | none => rfl
      | some o => exact absurd (lt_of_at (h.mem _ _ hM)) (Nat.lt_irrefl _)
  · by_cases h1 : k = hp.length
    · by_cases h2 : k' = hp.length
      · omega
      · rw [upd_ne _ _ h2] at hl'
        subst h1
        rw [upd_same] at hl
        cases hl
        have := h.plt hl'
        have he' : H.size = l'.blk := he
        omega
    · rw [upd_ne _ _ h1] at hl
      by_cases h2 : k' = hp.length
      · subst h2
        rw [upd_same] at hl'
        cases hl'
        have := h.plt hl
        have he' : l.blk = H.size := he
        omega
      · rw [upd_ne _ _ h2] at hl'
        exact h.inj k k' l l' hl hl' he
  · rw [List.length_append]
    by_cases h1 : k = hp.length
    · simp [h1]
    · rw [upd_ne _ _ h1] at hl
      have := h.dom k l hl
      omega
  · obtain ⟨c', e, hv⟩ := h.var d g cs hd hl
    exact ⟨c', e, ⟨hv.free, by rw [hpush _ (lt_of_at hv.at_)]; exact hv.at_, hv.size, hv.one, hv.cells.mono (SubM.refl _) hE⟩⟩
  · by_cases h1 : k = hp.length
    · subst h1
      rw [upd_same] at hl
      cases hl
      have := h.vlt d g hd
      show H.size ≠ g
      omega
    · rw [upd_ne _ _ h1] at hl
      exact h.vdis d g k l hd hl

/-- A new variable of slot d. -/
theorem Real.newVar (h : Real M ρ β hp lo H) (d : Nat) (cs : List AV) (c : Array Value) (e : TypeId) (hs : c.size = cs.length) (hone : One c) (hc : CellsIn M ρ hp cs c) :
    Real M ρ (upd β d H.size) hp ((d, cs) :: del d lo) (H.push (.cells c e (0, 0))) := by
  have hpush : ∀ g, g < H.size → (H.push (.cells c e (0, 0)))[g]? = H[g]? := fun g hg => by rw [Array.getElem?_push, if_neg (by omega)]
  refine ⟨fun g o hg => ?_, fun k b hb => ?_, h.inj, h.dom, fun d' g cs' hd hl => ?_, fun d' g hd => ?_, fun d1 d2 g h1 h2 => ?_, fun d' g k l hd hl => ?_⟩
  · have := h.mem g o hg
    rw [hpush g (lt_of_at this)]; exact this
  · obtain ⟨l, c', hl, hb'⟩ := h.blk k b hb
    exact ⟨l, c', hl, { hb' with at_ := by rw [hpush _ (lt_of_at hb'.at_)]; exact hb'.at_ }⟩
  · rw [lookup_put] at hl
    by_cases h1 : d' = d
    · subst h1
      rw [upd_same] at hd
      cases hd
      simp at hl
      subst hl
      refine ⟨c, e, ?_, by simp, hs, hone, hc⟩
      cases hM : M H.size with
      | none => rfl
      | some o => exact absurd (lt_of_at (h.mem _ _ hM)) (Nat.lt_irrefl _)
    · rw [upd_ne _ _ h1] at hd
      rw [if_neg h1] at hl
      obtain ⟨c', e', hv⟩ := h.var d' g cs' hd hl
      exact ⟨c', e', { hv with at_ := by rw [hpush _ (lt_of_at hv.at_)]; exact hv.at_ }⟩
  · rw [Array.size_push]
    by_cases h1 : d' = d
    · subst h1; rw [upd_same] at hd; cases hd; omega
    · rw [upd_ne _ _ h1] at hd; have := h.vlt d' g hd; omega
  · by_cases e1 : d1 = d
    · by_cases e2 : d2 = d
      · omega
      · rw [upd_ne _ _ e2] at h2
        subst e1
        rw [upd_same] at h1
        cases h1
        have := h.vlt d2 _ h2
        omega
    · rw [upd_ne _ _ e1] at h1
      by_cases e2 : d2 = d
      · subst e2
        rw [upd_same] at h2
        cases h2
        have := h.vlt d1 _ h1
        omega
      · rw [upd_ne _ _ e2] at h2
        exact h.vinj d1 d2 g h1 h2
  · by_cases e1 : d' = d
    · subst e1
      rw [upd_same] at hd
      cases hd
      have := h.plt hl
      omega
    · rw [upd_ne _ _ e1] at hd
      exact h.vdis d' g k l hd hl

theorem Ext.set {k : Nat} {b b' : Blk} {l l' : Plc} (hb : hp[k]? = some b) (hl : ρ k = some l) (hs : b'.sz = b.sz) (hr : b.rows.length ≤ b'.rows.length) (he : b'.rows.length = b.rows.length → l' = l) :
    Ext ρ hp (upd ρ k l') (hp.set k b') := by
  intro i bi li hbi hli
  by_cases h1 : i = k
  · subst h1
    rw [hb] at hbi; cases hbi
    rw [hl] at hli; cases hli
    have hk : i < hp.length := (List.getElem?_eq_some_iff.1 hb).1
    exact ⟨b', l', by simp [hk], upd_same _ _ _, hs, hr, he⟩
  · exact ⟨bi, li, by rw [List.getElem?_set_ne (Ne.symm h1)]; exact hbi, by rw [upd_ne _ _ h1]; exact hli, rfl, Nat.le_refl _, fun _ => rfl⟩

/-- A block of the heap holds other rows, in its place or in a new one. -/
theorem Real.setBlk (h : Real M ρ β hp lo H) {k : Nat} {b b' : Blk} {l l' : Plc} (hb : hp[k]? = some b) (hl : ρ k = some l) (hs : b'.sz = b.sz) (hr : b.rows.length ≤ b'.rows.length)
    (he : b'.rows.length = b.rows.length → l' = l) (hsz : H.size ≤ H'.size) (hH : ∀ g, g < H.size → g ≠ l.blk → H'[g]? = H[g]?) (hplace : l'.blk = l.blk ∨ H.size ≤ l'.blk)
    {c' : Array Value} (hat : H'[l'.blk]? = some (.cells c' b'.e (0, 0))) (hsize : c'.size = l'.n) (hroom : b'.rows.length * b'.sz ≤ l'.n) (hlen : ∀ row ∈ b'.rows, row.length = b'.sz) (hone : One c')
    (hrows : RowsIn M (upd ρ k l') (hp.set k b') b'.sz b'.rows c') : Real M (upd ρ k l') β (hp.set k b') lo H' := by
  have hE : Ext ρ hp (upd ρ k l') (hp.set k b') := Ext.set hb hl hs hr he
  have hk : k < hp.length := (List.getElem?_eq_some_iff.1 hb).1
  obtain ⟨l0, c0, hl0, hb0⟩ := h.blk k b hb
  rw [hl] at hl0
  cases hl0
  have hMl : ∀ g o, M g = some o → g ≠ l.blk := fun g o hg e => by rw [e, hb0.free] at hg; cases hg
  have hfresh : H.size ≤ l'.blk → M l'.blk = none := fun hge => by
    cases hM : M l'.blk with
    | none => rfl
    | some o => exact absurd (lt_of_at (h.mem _ _ hM)) (by omega)
  refine ⟨fun g o hg => ?_, fun i bi hbi => ?_, fun i j li lj hi hj e => ?_, fun i li hi => ?_, fun d g cs hd hlk => ?_, fun d g hd => Nat.lt_of_lt_of_le (h.vlt d g hd) hsz, h.vinj, fun d g i li hd hi => ?_⟩
  · have := h.mem g o hg
    rw [hH g (lt_of_at this) (hMl g o hg)]; exact this
  · by_cases h1 : i = k
    · subst h1
      have : bi = b' := by rw [List.getElem?_set_self hk] at hbi; exact (Option.some.inj hbi).symm
      subst this
      exact ⟨l', c', upd_same _ _ _, ⟨hplace.elim (fun e => by rw [e]; exact hb0.free) hfresh, hat, hsize, by rw [hs]; exact hb0.pos, hroom, hlen, hone, hrows⟩⟩
    · rw [List.getElem?_set_ne (Ne.symm h1)] at hbi
      obtain ⟨li, ci, hli, hbi'⟩ := h.blk i bi hbi
      have hne : li.blk ≠ l.blk := fun e => h1 (h.inj i k li l hli hl e)
      exact ⟨li, ci, by rw [upd_ne _ _ h1]; exact hli, ⟨hbi'.free, by rw [hH _ (lt_of_at hbi'.at_) hne]; exact hbi'.at_, hbi'.size, hbi'.pos, hbi'.room, hbi'.len, hbi'.one, hbi'.rows.mono (SubM.refl _) hE⟩⟩
  · by_cases h1 : i = k
    · by_cases h2 : j = k
      · omega
      · rw [upd_ne _ _ h2] at hj
        subst h1
        rw [upd_same] at hi
        cases hi
        rcases hplace with hp' | hp'
        · exact absurd (h.inj i j l lj hl hj (hp'.symm.trans e)) (Ne.symm h2)
        · have := h.plt hj; omega
    · rw [upd_ne _ _ h1] at hi
      by_cases h2 : j = k
      · subst h2
        rw [upd_same] at hj
        cases hj
        rcases hplace with hp' | hp'
        · exact absurd (h.inj i j li l hi hl (e.trans hp')) h1
        · have := h.plt hi; omega
      · rw [upd_ne _ _ h2] at hj
        exact h.inj i j li lj hi hj e
  · rw [List.length_set]
    by_cases h1 : i = k
    · omega
    · rw [upd_ne _ _ h1] at hi; exact h.dom i li hi
  · obtain ⟨c, e, hv⟩ := h.var d g cs hd hlk
    have hne : g ≠ l.blk := fun e => h.vdis d g k l hd hl e.symm
    exact ⟨c, e, ⟨hv.free, by rw [hH _ (lt_of_at hv.at_) hne]; exact hv.at_, hv.size, hv.one, hv.cells.mono (SubM.refl _) hE⟩⟩
  · by_cases h1 : i = k
    · subst h1
      rw [upd_same] at hi
      cases hi
      rcases hplace with hp' | hp'
      · rw [hp']; exact h.vdis d g i l hd hl
      · have := h.vlt d g hd; omega
    · rw [upd_ne _ _ h1] at hi; exact h.vdis d g i li hd hi

/-- The variable of a slot holds other cells. -/
theorem Real.setVar (h : Real M ρ β hp lo H) {d g : Nat} {cs' : List AV} (hd : β d = some g) (hsz : H.size ≤ H'.size) (hH : ∀ i, i < H.size → i ≠ g → H'[i]? = H[i]?) (hfree : M g = none)
    {c' : Array Value} {e : TypeId} (hat : H'[g]? = some (.cells c' e (0, 0))) (hs : c'.size = cs'.length) (hone : One c') (hc : CellsIn M ρ hp cs' c') : Real M ρ β hp ((d, cs') :: del d lo) H' := by
  refine ⟨fun i o hi => ?_, fun k b hb => ?_, h.inj, h.dom, fun d' g' cs hd' hl => ?_, fun d' g' hd' => Nat.lt_of_lt_of_le (h.vlt d' g' hd') hsz, h.vinj, h.vdis⟩
  · have := h.mem i o hi
    rw [hH i (lt_of_at this) (fun e => by rw [e, hfree] at hi; cases hi)]; exact this
  · obtain ⟨l, c, hl, hb'⟩ := h.blk k b hb
    exact ⟨l, c, hl, { hb' with at_ := by rw [hH _ (lt_of_at hb'.at_) (h.vdis d g k l hd hl)]; exact hb'.at_ }⟩
  · rw [lookup_put] at hl
    by_cases h1 : d' = d
    · subst h1
      rw [hd] at hd'
      cases hd'
      simp at hl
      subst hl
      exact ⟨c', e, hfree, hat, hs, hone, hc⟩
    · rw [if_neg h1] at hl
      obtain ⟨c, e', hv⟩ := h.var d' g' cs hd' hl
      exact ⟨c, e', { hv with at_ := by rw [hH _ (lt_of_at hv.at_) (fun e => h1 (h.vinj d' d g' hd' (by rw [e]; exact hd)))]; exact hv.at_ }⟩

/-- Fewer variables are told. -/
theorem Real.forget (h : Real M ρ β hp lo H) {lo' : List (Nat × List AV)} (hl : ∀ d cs, lo'.lookup d = some cs → lo.lookup d = some cs) : Real M ρ β hp lo' H :=
  { h with var := fun d g cs hd h' => h.var d g cs hd (hl d cs h') }

end
end Go.Proofs.Ythbmlioknnhleaa.Abs

/- The abstract machine's operations that touch no memory: what they tell is so. -/
namespace Go.Proofs.Ythbmlioknnhleaa.Abs
open Go

/-- what a slot holds -/
def ERel (M : Mem) (ρ : Rho) (β : Nat → Option Nat) (hp : List Blk) (x : AV) (v : Value) : Prop :=
  (∃ d c g, x = .lptr d c ∧ β d = some g ∧ v = .pointer (some ⟨g, c, none⟩)) ∨ VRel M ρ hp x v

structure Adv (w w' : World) : Prop where
  os : w'.os = w.os
  tape : w'.tape = w.tape
  output : w'.output = w.output
  size : w.heap.size ≤ w'.heap.size
  drawn : w.drawn ≤ w'.drawn
theorem Adv.refl (w : World) : Adv w w := ⟨rfl, rfl, rfl, Nat.le_refl _, Nat.le_refl _⟩
theorem Adv.trans {a b c : World} (h : Adv a b) (k : Adv b c) : Adv a c := ⟨k.os.trans h.os, k.tape.trans h.tape, k.output.trans h.output, Nat.le_trans h.size k.size, Nat.le_trans h.drawn k.drawn⟩

/-- the operation comes to an end, with a value and a world of which R holds -/
def Outs (P : Program) (o : Oper) (a : Act) (w : World) (R : Value → World → Prop) : Prop :=
  ∀ (next : Act → World → Prop) (Q : Exit → Act → World → Prop), (∀ u w', R u w' → next (a.put o.dst u) w') → o.wp P a w next Q

section
variable {P : Program} {o : Oper} {a : Act} {w w' : World} {R : Value → World → Prop}
theorem Outs.value {u : Value} (h : (execOp a.eval o).run P w = .ok (.value u) w') (hR : R u w') : Outs P o a w R := fun next Q k => by
  unfold Oper.wp
  rw [h]
  exact k u w' hR
theorem Outs.skip (h : (execOp a.eval o).run P w = .ok .skip w') (hR : R undef w') : Outs P o a w R := fun next Q k => by
  unfold Oper.wp
  rw [h]
  exact k undef w' hR
theorem Outs.enter {f : FuncId} {vs : Array Value} (h : (execOp a.eval o).run P w = .ok (.enter f vs) w') (hc : Calls P f vs w' fun e w'' => ∃ u, e = .returned u ∧ R u w'') : Outs P o a w R := fun next Q k => by
  unfold Oper.wp
  rw [h]
  exact hc.mono fun e w'' ⟨u, he, hR⟩ => by subst he; exact k u w'' hR
end

/-! ### types -/
theorem tiOf_some {P : Program} {t : Nat} {ti : TI} (h : tiOf P t = some ti) :
    ∃ i z d, P.info? t = some i ∧ i.zero = some z ∧ zeroCells z.cells.toList = some ti.zero ∧ ti.zero.length = i.size ∧ ti.d = tyOf P t ∧ ti.size = i.size ∧ ti.bytes = i.bytes ∧ P.underlying t = some d ∧ (∀ ls, ti.leaf = some ls → leavesT P 6 t = some ls ∧ agg? (tyOf P t) = true) := by
  unfold tiOf at h
  split at h
  · rename_i i hi
    split at h
    · rename_i z hz
      split at h
      · rename_i zs hzs
        split at h
        · rename_i hl
          cases h
          obtain ⟨d, hd⟩ := Option.isSome_iff_exists.1 hl.2
          exact ⟨i, z, d, hi, hz, hzs, hl.1, rfl, rfl, rfl, hd, fun ls hls => by
            dsimp only at hls
            split at hls
            · rename_i ha; exact ⟨hls, ha⟩
            · cases hls⟩
        · cases h
      · cases h
    · cases h
  · cases h

theorem tyOf_eq {P : Program} {t : Nat} : (∀ k, tyOf P t = .int k → P.underlying t = some (.int k)) ∧ (tyOf P t = .str → P.underlying t = some .string) ∧ (tyOf P t = .bool → P.underlying t = some .bool) ∧
    (∀ e, tyOf P t = .slice e → P.underlying t = some (.slice e)) ∧ (∀ n e, tyOf P t = .array n e → P.underlying t = some (.array n e)) ∧
    (∀ fs, tyOf P t = .struct fs → ∃ gs, P.underlying t = some (.struct gs) ∧ fs = gs.toList.map fun f => (f.offset, f.type)) := by
  unfold tyOf
  cases h : P.underlying t with
  | none => simp
  | some d => cases d <;> simp <;> exact fun _ h => h.symm

theorem agg_eq {P : Program} {t : Nat} : agg? (tyOf P t) = (match P.underlying t with | some (.struct _) | some (.array _ _) => true | _ => false) := by
  unfold tyOf
  cases h : P.underlying t with
  | none => rfl
  | some d => cases d <;> rfl

section
variable {P : Program} {w : World}

theorem run_typeInfo' {t : Nat} {i : TypeInfo} (h : P.info? t = some i) : (typeInfo t).run P w = .ok i w := by simp [typeInfo, h]
theorem run_sizeOf' {t : Nat} {i : TypeInfo} (h : P.info? t = some i) : (sizeOf t).run P w = .ok i.size w := by simp [Go.sizeOf, run_typeInfo' h]
theorem run_isAgg' {t : Nat} {d : TypeDesc} (hd : P.underlying t = some d) : (isAgg t).run P w = .ok (agg? (tyOf P t)) w := by
  rw [agg_eq]
  simp only [isAgg, Sem.run_bind, run_underlying hd, Result.andThen_ok, hd]
  cases d <;> rfl

/-- a part of an aggregate -/
theorem run_part {t : Nat} {i : TypeInfo} {d : TypeDesc} (hi : P.info? t = some i) (hd : P.underlying t = some d) {c : Array Value} {off : Nat} {u : Value}
    (h : if agg? (tyOf P t) = true then u = .agg (c.extract off (off + i.size)) else c[off]? = some u) : (part t c off).run P w = .ok u w := by
  unfold part
  simp only [Sem.run_bind, run_isAgg' hd, Result.andThen_ok]
  split
  · rename_i ha
    rw [if_pos ha] at h
    simp [run_sizeOf' hi, h]
  · rename_i ha
    rw [if_neg ha] at h
    simp [h]
end


section
variable {M : Mem} {ρ : Rho} {β : Nat → Option Nat} {hp : List Blk}

theorem VRel.int_inv {k : IntKind} {n : Int} {v : Value} (h : VRel M ρ hp (.int k n) v) : v = .int k n := by cases h; rfl
theorem VRel.bool_inv {b : Bool} {v : Value} (h : VRel M ρ hp (.bool b) v) : v = .bool b := by cases h; rfl
theorem VRel.str_inv {s : ByteArray} {v : Value} (h : VRel M ρ hp (.str s) v) : v = .string s := by cases h; rfl
theorem ERel.v {x : AV} {v : Value} (h : ERel M ρ β hp x v) (hx : ∀ d c, x ≠ .lptr d c) : VRel M ρ hp x v := by
  rcases h with ⟨d, c, g, hxe, _⟩ | h
  · exact absurd hxe (hx d c)
  · exact h
theorem ERel.noL {x : AV} {v : Value} (h : ERel M ρ β hp x v) (hx : x.noL = true) : VRel M ρ hp x v := h.v fun d c e => by subst e; cases hx
theorem ERel.int_inv {k : IntKind} {n : Int} {v : Value} (h : ERel M ρ β hp (.int k n) v) : v = .int k n := (h.v fun _ _ e => by cases e).int_inv
theorem ERel.bool_inv {b : Bool} {v : Value} (h : ERel M ρ β hp (.bool b) v) : v = .bool b := (h.v fun _ _ e => by cases e).bool_inv
theorem ERel.str_inv {s : ByteArray} {v : Value} (h : ERel M ρ β hp (.str s) v) : v = .string s := (h.v fun _ _ e => by cases e).str_inv
theorem ERel.lptr_inv {d c : Nat} {v : Value} (h : ERel M ρ β hp (.lptr d c) v) : ∃ g, β d = some g ∧ v = .pointer (some ⟨g, c, none⟩) := by
  rcases h with ⟨d', c', g, hx, hg, hv⟩ | h
  · cases hx; exact ⟨g, hg, hv⟩
  · cases h
theorem ERel.mono {M' : Mem} {ρ' : Rho} {hp' : List Blk} {x : AV} {v : Value} (h : ERel M ρ β hp x v) (hM : SubM M M') (hE : Ext ρ hp ρ' hp') : ERel M' ρ' β hp' x v :=
  h.imp id fun h => h.mono hM hE
theorem VRel.e {x : AV} {v : Value} (h : VRel M ρ hp x v) : ERel M ρ β hp x v := .inr h

theorem constAV_rel {v : Value} {x : AV} (h : constAV v = some x) : VRel M ρ hp x v := by
  unfold constAV at h
  split at h <;> cases h
  · exact .bool _
  · exact .int _ _
  · exact .str _
  · exact .nilptr
  · exact .nilsl

theorem opd_rel {env : List (Nat × AV)} {a : Act} {x : Operand} {v : AV} (h : opd env x = some v) (hE : ∀ t, x = .tmp t → ERel M ρ β hp (get env t) (a.tmps.getD t undef)) : ERel M ρ β hp v (a.eval x) := by
  cases x with
  | tmp t => simp only [opd, Option.some.injEq] at h; subst h; exact hE t rfl
  | const k => exact .inr (constAV_rel h)
  | func f =>
    simp only [opd, Option.some.injEq] at h
    subst h
    exact .inr (.fn rfl fun j x u hj _ => by simp at hj)
  | global g => cases h

theorem args_rel {env : List (Nat × AV)} {a : Act} : ∀ (l : List Operand) (vs : List AV), args env l = some vs → (∀ t, Operand.tmp t ∈ l → ERel M ρ β hp (get env t) (a.tmps.getD t undef)) →
    vs.length = l.length ∧ ∀ (j : Nat) (v : AV), vs[j]? = some v → ∃ x, l[j]? = some x ∧ opd env x = some v ∧ ERel M ρ β hp v (a.eval x)
  | [], vs, h, _ => by
    simp only [args, Option.some.injEq] at h
    subst h
    exact ⟨rfl, fun j v hj => by simp at hj⟩
  | x :: l, vs, h, hE => by
    simp only [args] at h
    split at h
    · rename_i v vs' hv hvs
      cases h
      obtain ⟨hl, hr⟩ := args_rel l vs' hvs fun t ht => hE t (List.mem_cons_of_mem _ ht)
      refine ⟨by simp [hl], fun j u hj => ?_⟩
      cases j with
      | zero => simp at hj; subst hj; exact ⟨x, rfl, hv, opd_rel hv fun t ht => hE t (ht ▸ List.mem_cons_self)⟩
      | succ j => exact hr j u (by simpa using hj)
    · cases h

/-- the arguments, as values -/
theorem args_vals {env : List (Nat × AV)} {a : Act} {l : Array Operand} {vs : List AV} (h : args env l.toList = some vs) (hE : ∀ t, Operand.tmp t ∈ l.toList → ERel M ρ β hp (get env t) (a.tmps.getD t undef)) :
    (l.map a.eval).size = vs.length ∧ ∀ (j : Nat) x u, vs[j]? = some x → (l.map a.eval)[j]? = some u → ERel M ρ β hp x u := by
  obtain ⟨h1, h2⟩ := args_rel l.toList vs h hE
  refine ⟨by simp [h1], fun j x u hx hu => ?_⟩
  obtain ⟨y, hy, _, hr⟩ := h2 j x hx
  have : l[j]? = some y := by simpa using hy
  simp [this] at hu
  subst hu
  exact hr

theorem allNoL_get : ∀ (vs : List AV), allNoL vs = true → ∀ (j : Nat) v, vs[j]? = some v → v.noL = true
  | [], _, j, v, h => by simp at h
  | x :: l, h, j, v, hj => by
    simp only [allNoL, Bool.and_eq_true] at h
    cases j with
    | zero => simp at hj; subst hj; exact h.1
    | succ j => exact allNoL_get l h.2 j v (by simpa using hj)

/-- cells of an aggregate, or the one cell of another value -/
theorem cells_rel {x : AV} {v : Value} (h : VRel M ρ hp x v) (hx : x.noL = true) : v.cells.size = x.cells.length ∧ One v.cells ∧ CellsIn M ρ hp x.cells v.cells := by
  by_cases ha : ∃ cs, x = .agg cs
  · obtain ⟨cs, rfl⟩ := ha
    cases h with
    | agg hs hone h => exact ⟨hs, hone, h⟩
  · have ho := h.one hx fun cs e => ha ⟨cs, e⟩
    have hc : v.cells = #[v] := by cases v <;> first | rfl | (simp [Value.oneCell'] at ho; done)
    have hx' : x.cells = [x] := by cases x <;> first | rfl | exact absurd ⟨_, rfl⟩ ha
    rw [hc, hx']
    refine ⟨rfl, fun j u hj => ?_, fun j y u hy hu => ?_⟩
    · cases j with
      | zero => simp at hj; subst hj; exact ho
      | succ j => simp at hj
    · cases j with
      | zero => simp at hy hu; subst hy; subst hu; exact h
      | succ j => simp at hy

/-- a part of told cells -/
theorem partOf_rel {P : Program} {t : Nat} {ti : TI} (ht : tiOf P t = some ti) {cs : List AV} {c : Array Value} {off : Nat} {x : AV}
    (hp' : partOf ti cs off = some x) (hlen : cs.length ≤ c.size) (hone : One c) (hc : CellsIn M ρ hp cs c) (w : World) : ∃ u, (part t c off).run P w = .ok u w ∧ VRel M ρ hp x u := by
  obtain ⟨i, z, d, hi, _, _, _, htd, hsz, _, hd, _⟩ := tiOf_some ht
  unfold partOf at hp'
  rw [htd] at hp'
  cases ha : agg? (tyOf P t) with
  | true =>
    rw [ha] at hp'
    simp only [cond_true] at hp'
    split at hp'
    · rename_i hle
      cases hp'
      refine ⟨_, run_part hi hd (by rw [if_pos ha]), ?_⟩
      rw [← hsz]
      refine .agg (by simp; omega) (fun j u hu => ?_) fun j y u hy hu => ?_
      · simp only [Array.getElem?_extract] at hu
        split at hu
        · exact hone _ _ hu
        · cases hu
      · simp only [Array.getElem?_extract] at hu
        rw [List.getElem?_take] at hy
        split at hy
        · rw [List.getElem?_drop] at hy
          split at hu
          · exact hc _ _ _ hy hu
          · cases hu
        · cases hy
    · cases hp'
  | false =>
    rw [ha] at hp'
    simp only [cond_false] at hp'
    have hlt : off < c.size := Nat.lt_of_lt_of_le (List.getElem?_eq_some_iff.1 hp').1 hlen
    refine ⟨c[off], run_part hi hd (by rw [ha]; simp [hlt]), hc off x _ hp' (by simp [hlt])⟩
end
end Go.Proofs.Ythbmlioknnhleaa.Abs

/- The abstract machine: comparing values; arithmetic. -/
namespace Go.Proofs.Ythbmlioknnhleaa.Abs
open Go

/-- two cells of one kind -/
def Pair : LK → Value → Value → Prop
  | .int, u, v => ∃ k a b, u = .int k a ∧ v = .int k b
  | .bool, u, v => ∃ a b, u = .bool a ∧ v = .bool b
  | .str, u, v => ∃ a b, u = .string a ∧ v = .string b
def eqV : Value → Value → Bool
  | .int _ a, .int _ b => a == b
  | .bool a, .bool b => a == b
  | .string a, .string b => a.toList == b.toList
  | _, _ => false
def Pairs : List LK → List Value → List Value → Prop
  | [], [], [] => True
  | l :: ls, u :: us, v :: vs => Pair l u v ∧ Pairs ls us vs
  | _, _, _ => False
def eqVs : List Value → List Value → Bool
  | u :: us, v :: vs => eqV u v && eqVs us vs
  | _, _ => true

theorem Pairs.split : ∀ (l l' : List LK) (us vs : List Value), Pairs (l ++ l') us vs →
    Pairs l (us.take l.length) (vs.take l.length) ∧ Pairs l' (us.drop l.length) (vs.drop l.length) ∧ eqVs us vs = (eqVs (us.take l.length) (vs.take l.length) && eqVs (us.drop l.length) (vs.drop l.length))
  | [], l', us, vs, h => ⟨by simp [Pairs], by simpa using h, by simp [eqVs]⟩
  | k :: l, l', [], vs, h => by cases vs <;> simp [Pairs] at h
  | k :: l, l', u :: us, [], h => by simp [Pairs] at h
  | k :: l, l', u :: us, v :: vs, h => by
    obtain ⟨h1, h2⟩ := h
    obtain ⟨a, b, c⟩ := Pairs.split l l' us vs h2
    exact ⟨⟨h1, a⟩, b, by simp only [List.length_cons, List.take_succ_cons, List.drop_succ_cons, eqVs, c, Bool.and_assoc]⟩

theorem Pairs.len : ∀ (l : List LK) (us vs : List Value), Pairs l us vs → us.length = l.length ∧ vs.length = l.length
  | [], [], [], _ => ⟨rfl, rfl⟩
  | [], [], v :: vs, h => by simp [Pairs] at h
  | [], u :: us, vs, h => by simp [Pairs] at h
  | k :: l, [], vs, h => by cases vs <;> simp [Pairs] at h
  | k :: l, u :: us, [], h => by simp [Pairs] at h
  | k :: l, u :: us, v :: vs, h => by
    obtain ⟨a, b⟩ := Pairs.len l us vs h.2
    exact ⟨by simp [a], by simp [b]⟩

/-- how a value of a type stands in its cells -/
def Formed (P : Program) (t : Nat) (x : Value) : Prop := if agg? (tyOf P t) = true then ∃ c, x = .agg c else x.oneCell' = true

theorem cells_one {x : Value} (h : x.oneCell' = true) : x.cells = #[x] := by cases x <;> first | rfl | (simp [Value.oneCell'] at h; done)

section
variable {P : Program}

theorem part_formed {t : Nat} {i : TypeInfo} {d : TypeDesc} (hi : P.info? t = some i) (hd : P.underlying t = some d) {c : Array Value} {off : Nat} {l : List LK} (hl : i.size = l.length)
    (h1 : agg? (tyOf P t) = false → l.length = 1) (hp : ∀ u, c[off]? = some u → agg? (tyOf P t) = false → u.oneCell' = true) (hin : off + i.size ≤ c.size) (w : World) :
    ∃ u, (part t c off).run P w = .ok u w ∧ Formed P t u ∧ u.cells.toList = (c.toList.drop off).take l.length := by
  cases ha : agg? (tyOf P t) with
  | true =>
    refine ⟨.agg (c.extract off (off + i.size)), run_part hi hd (by rw [if_pos ha]), by unfold Formed; rw [if_pos ha]; exact ⟨_, rfl⟩, ?_⟩
    show (c.extract off (off + i.size)).toList = _
    rw [Array.toList_extract, ← hl]
    simp
  | false =>
    have hone := h1 ha
    have hlt : off < c.size := by omega
    have hu : c[off]? = some c[off] := by simp [hlt]
    have ho := hp _ hu ha
    refine ⟨c[off], run_part hi hd (by rw [ha]; simp [hlt]), by unfold Formed; rw [ha]; exact ho, ?_⟩
    rw [cells_one ho, hone]
    have : off < c.toList.length := by simpa using hlt
    rw [List.drop_eq_getElem_cons this]
    simp

theorem leaves_info : ∀ {d t : Nat} {l : List LK}, leavesT P d t = some l → ∃ k, P.underlying t = some k ∧ (agg? (tyOf P t) = false → l.length = 1)
  | 0, t, l, h => by simp [leavesT] at h
  | d + 1, t, l, h => by
    unfold leavesT at h
    rw [agg_eq]
    cases hu : P.underlying t with
    | none => simp [hu] at h
    | some k =>
      rw [hu] at h
      refine ⟨k, rfl, fun ha => ?_⟩
      cases k <;> simp at h ha <;> (subst h; rfl)

theorem Pair.one {l : LK} {u v : Value} (h : Pair l u v) : u.oneCell' = true ∧ v.oneCell' = true := by
  cases l with
  | int => obtain ⟨k, a, b, rfl, rfl⟩ := h; exact ⟨rfl, rfl⟩
  | bool => obtain ⟨a, b, rfl, rfl⟩ := h; exact ⟨rfl, rfl⟩
  | str => obtain ⟨a, b, rfl, rfl⟩ := h; exact ⟨rfl, rfl⟩

theorem Pairs.ones : ∀ (l : List LK) (us vs : List Value), Pairs l us vs → (∀ (j : Nat) u, us[j]? = some u → u.oneCell' = true) ∧ (∀ (j : Nat) u, vs[j]? = some u → u.oneCell' = true)
  | [], [], [], _ => ⟨fun j u h => by simp at h, fun j u h => by simp at h⟩
  | [], [], v :: vs, h => by simp [Pairs] at h
  | [], u :: us, vs, h => by simp [Pairs] at h
  | k :: l, [], vs, h => by cases vs <;> simp [Pairs] at h
  | k :: l, u :: us, [], h => by simp [Pairs] at h
  | k :: l, u :: us, v :: vs, h => by
    obtain ⟨a, b⟩ := Pairs.ones l us vs h.2
    obtain ⟨c, d⟩ := h.1.one
    refine ⟨fun j x hx => ?_, fun j x hx => ?_⟩
    · cases j with
      | zero => simp at hx; subst hx; exact c
      | succ j => exact a j x (by simpa using hx)
    · cases j with
      | zero => simp at hx; subst hx; exact d
      | succ j => exact b j x (by simpa using hx)

/-- '==' at a type whose values are compared cell by cell -/
theorem equalIn_run : ∀ (d : Nat) (t : Nat) (l : List LK), leavesT P d t = some l → ∀ (D : Nat) (w : World) (x y : Value), d ≤ D → Formed P t x → Formed P t y → Pairs l x.cells.toList y.cells.toList →
    (Op.equalIn D t x y).run P w = .ok (eqVs x.cells.toList y.cells.toList) w := by
  intro d
  induction d with
  | zero => intro t l h; simp [leavesT] at h
  | succ d ih =>
    intro t l h D w x y hD fx fy hp
    obtain ⟨D, rfl⟩ : ∃ n, D = n + 1 := ⟨D - 1, by omega⟩
    unfold leavesT at h
    cases hu : P.underlying t with
    | none => simp [hu] at h
    | some k =>
      rw [hu] at h
      have hag := agg_eq (P := P) (t := t)
      rw [hu] at hag
      unfold Formed at fx fy
      rw [hag] at fx fy
      cases k <;> simp at h
      case int k =>
        subst h
        simp at fx fy
        rw [cells_one fx, cells_one fy] at hp ⊢
        obtain ⟨⟨k', a, b, rfl, rfl⟩, _⟩ := hp
        rw [run_equalIn_int w D t k' k a b hu]
        simp [eqVs, eqV]
      case bool =>
        subst h
        simp at fx fy
        rw [cells_one fx, cells_one fy] at hp ⊢
        obtain ⟨⟨a, b, rfl, rfl⟩, _⟩ := hp
        rw [run_equalIn_bool' w D t a b hu]
        simp [eqVs, eqV]
      case string =>
        subst h
        simp at fx fy
        rw [cells_one fx, cells_one fy] at hp ⊢
        obtain ⟨⟨a, b, rfl, rfl⟩, _⟩ := hp
        rw [run_equalIn_string w D t a b hu]
        simp [eqVs, eqV]
      case array n e =>
        simp at fx fy
        obtain ⟨xs, rfl⟩ := fx
        obtain ⟨ys, rfl⟩ := fy
        replace hp : Pairs l xs.toList ys.toList := hp
        show _ = Result.ok (eqVs xs.toList ys.toList) w
        cases hl : leavesT P d e with
        | none => simp [hl] at h
        | some le =>
          cases hi : P.info? e with
          | none => simp [hl, hi] at h
          | some i =>
            simp [hl, hi] at h
            obtain ⟨hsz, rfl⟩ := h
            obtain ⟨de, hde, h1⟩ := leaves_info hl
            rw [run_equalIn_array w D xs ys hu hi]
            have hco : P.cellsOf e = le.length := by unfold Program.cellsOf; rw [hi]; exact hsz
            rw [hco]
            have key : ∀ (m s : Nat), s + m = n → Pairs (List.replicate m le).flatten (xs.toList.drop (s * le.length)) (ys.toList.drop (s * le.length)) →
                (Op.eqItems D e le.length xs ys (List.range' s m)).run P w = .ok (eqVs (xs.toList.drop (s * le.length)) (ys.toList.drop (s * le.length))) w := by
              intro m
              induction m with
              | zero =>
                intro s hs hpp
                obtain ⟨a, b⟩ := Pairs.len _ _ _ hpp
                simp only [List.replicate_zero, List.flatten_nil, List.length_nil, List.length_eq_zero_iff] at a b
                rw [a, b]
                simp [Op.eqItems, eqVs]
              | succ m ihm =>
                intro s hs hpp
                rw [List.replicate_succ, List.flatten_cons] at hpp
                obtain ⟨p1, p2, p3⟩ := Pairs.split _ _ _ _ hpp
                obtain ⟨o1, o2⟩ := Pairs.ones _ _ _ p1
                obtain ⟨l1, l2⟩ := Pairs.len _ _ _ p1
                have hx : s * le.length + i.size ≤ xs.size := by
                  rw [List.length_take, List.length_drop] at l1
                  have : xs.toList.length = xs.size := rfl
                  rw [hsz]
                  rcases Nat.eq_zero_or_pos le.length with hz | hz
                  · rw [hz]; simp
                  · omega
                have hy : s * le.length + i.size ≤ ys.size := by
                  rw [List.length_take, List.length_drop] at l2
                  have : ys.toList.length = ys.size := rfl
                  rw [hsz]
                  rcases Nat.eq_zero_or_pos le.length with hz | hz
                  · rw [hz]; simp
                  · omega
                obtain ⟨a, ra, fa, ca⟩ := part_formed hi hde hsz h1 (c := xs) (off := s * le.length) (fun u hu' ha => by
                  have h1' := h1 ha
                  refine o1 0 u ?_
                  rw [List.getElem?_take, if_pos (by omega), List.getElem?_drop]
                  simpa using hu') hx w
                obtain ⟨b, rb, fb, cb⟩ := part_formed hi hde hsz h1 (c := ys) (off := s * le.length) (fun u hu' ha => by
                  have h1' := h1 ha
                  refine o2 0 u ?_
                  rw [List.getElem?_take, if_pos (by omega), List.getElem?_drop]
                  simpa using hu') hy w
                have he := ih e le hl D w a b (by omega) fa fb (by rw [ca, cb]; exact p1)
                have hn := ihm (s + 1) (by omega) (by
                  have : (s + 1) * le.length = s * le.length + le.length := Nat.succ_mul _ _
                  rw [this, ← List.drop_drop, ← List.drop_drop]
                  exact p2)
                rw [List.range'_succ]
                simp only [Op.eqItems, Sem.run_bind, ra, rb, he, Result.andThen_ok, ca, cb]
                rw [p3]
                cases hq : eqVs ((xs.toList.drop (s * le.length)).take le.length) ((ys.toList.drop (s * le.length)).take le.length) with
                | false => simp
                | true =>
                  simp only [Bool.not_true, Bool.false_eq_true, if_false, Bool.true_and]
                  rw [hn]
                  have : (s + 1) * le.length = s * le.length + le.length := Nat.succ_mul _ _
                  rw [this, ← List.drop_drop, ← List.drop_drop]
            have := key n 0 (by omega) (by simpa using hp)
            rw [List.range_eq_range']
            simpa using this
      case struct fs =>
        simp at fx fy
        obtain ⟨xs, rfl⟩ := fx
        obtain ⟨ys, rfl⟩ := fy
        replace hp : Pairs l xs.toList ys.toList := hp
        show _ = Result.ok (eqVs xs.toList ys.toList) w
        obtain ⟨hst, h⟩ := h
        have hfo : P.fieldsOf t = fs := by simp [Program.fieldsOf, hu]
        rw [run_equalIn_struct w D t xs ys (by rw [hfo]; exact hu) hst, hfo]
        have key : ∀ (gs : List Field) (l : List LK) (s : Nat), leavesF P (leavesT P d) gs s = some l → Pairs l (xs.toList.drop s) (ys.toList.drop s) →
            (Op.eqFields D xs ys gs).run P w = .ok (eqVs (xs.toList.drop s) (ys.toList.drop s)) w := by
          intro gs
          induction gs with
          | nil =>
            intro l s hl hpp
            simp [leavesF] at hl
            subst hl
            obtain ⟨a, b⟩ := Pairs.len _ _ _ hpp
            simp only [List.length_nil, List.length_eq_zero_iff] at a b
            rw [a, b]
            simp [Op.eqFields, eqVs]
          | cons f gs ihg =>
            intro l s hl hpp
            simp only [leavesF] at hl
            cases hlf : leavesT P d f.type with
            | none => simp [hlf] at hl
            | some le =>
              cases hi : P.info? f.type with
              | none => simp [hlf, hi] at hl
              | some i =>
                simp only [hlf, hi] at hl
                split at hl
                · rename_i hc
                  obtain ⟨hoff, hname, hsz⟩ := hc
                  simp only [Option.map_eq_some_iff] at hl
                  obtain ⟨lr, hlr, rfl⟩ := hl
                  obtain ⟨de, hde, h1⟩ := leaves_info hlf
                  obtain ⟨p1, p2, p3⟩ := Pairs.split _ _ _ _ hpp
                  obtain ⟨o1, o2⟩ := Pairs.ones _ _ _ p1
                  obtain ⟨l1, l2⟩ := Pairs.len _ _ _ p1
                  rw [← hoff] at l1 l2 p1 p2 p3 o1 o2
                  by_cases hz0 : le.length = 0
                  · -- a field without cells
                    have ha : agg? (tyOf P f.type) = true := by
                      cases hq : agg? (tyOf P f.type) with
                      | true => rfl
                      | false => have := h1 hq; omega
                    have hsz0 : i.size = 0 := by omega
                    have ra : (part f.type xs f.offset).run P w = .ok (.agg (xs.extract f.offset (f.offset + i.size))) w := run_part hi hde (by rw [if_pos ha])
                    have rb : (part f.type ys f.offset).run P w = .ok (.agg (ys.extract f.offset (f.offset + i.size))) w := run_part hi hde (by rw [if_pos ha])
                    have ea : (Value.agg (xs.extract f.offset (f.offset + i.size))).cells.toList = [] := by show (xs.extract f.offset (f.offset + i.size)).toList = []; rw [hsz0]; simp
                    have eb : (Value.agg (ys.extract f.offset (f.offset + i.size))).cells.toList = [] := by show (ys.extract f.offset (f.offset + i.size)).toList = []; rw [hsz0]; simp
                    have hle : le = [] := List.eq_nil_of_length_eq_zero hz0
                    have he := ih f.type le hlf D w (.agg (xs.extract f.offset (f.offset + i.size))) (.agg (ys.extract f.offset (f.offset + i.size))) (by omega) (by unfold Formed; rw [if_pos ha]; exact ⟨_, rfl⟩) (by unfold Formed; rw [if_pos ha]; exact ⟨_, rfl⟩) (by rw [ea, eb, hle]; trivial)
                    rw [ea, eb] at he
                    have hn := ihg lr (s + le.length) hlr (by rw [hz0, Nat.add_zero, ← hoff]; rw [hz0] at p2; simpa using p2)
                    simp only [Op.eqFields, hname, ne_eq, not_false_eq_true, if_true, Sem.run_bind, ra, rb, he, Result.andThen_ok, eqVs, Bool.not_true, Bool.false_eq_true, if_false]
                    rw [hn, hz0, Nat.add_zero]
                  · have hx : f.offset + i.size ≤ xs.size := by
                      rw [List.length_take, List.length_drop] at l1
                      have : xs.toList.length = xs.size := rfl
                      omega
                    have hy : f.offset + i.size ≤ ys.size := by
                      rw [List.length_take, List.length_drop] at l2
                      have : ys.toList.length = ys.size := rfl
                      omega
                    obtain ⟨a, ra, fa, ca⟩ := part_formed hi hde hsz h1 (c := xs) (off := f.offset) (fun u hu' ha => by
                      have h1' := h1 ha
                      refine o1 0 u ?_
                      rw [List.getElem?_take, if_pos (by omega), List.getElem?_drop]
                      simpa using hu') hx w
                    obtain ⟨b, rb, fb, cb⟩ := part_formed hi hde hsz h1 (c := ys) (off := f.offset) (fun u hu' ha => by
                      have h1' := h1 ha
                      refine o2 0 u ?_
                      rw [List.getElem?_take, if_pos (by omega), List.getElem?_drop]
                      simpa using hu') hy w
                    have he := ih f.type le hlf D w a b (by omega) fa fb (by rw [ca, cb]; exact p1)
                    have hn := ihg lr (s + le.length) hlr (by rw [← hoff, ← List.drop_drop, ← List.drop_drop]; exact p2)
                    simp only [Op.eqFields, hname, ne_eq, not_false_eq_true, if_true, Sem.run_bind, ra, rb, he, Result.andThen_ok, ca, cb]
                    rw [← hoff, p3]
                    cases hq : eqVs ((xs.toList.drop f.offset).take le.length) ((ys.toList.drop f.offset).take le.length) with
                    | false => simp
                    | true =>
                      simp only [Bool.not_true, Bool.false_eq_true, if_false, Bool.true_and]
                      rw [hn, ← hoff, ← List.drop_drop, ← List.drop_drop]
                · cases hl
        have := key fs.toList l 0 h (by simpa using hp)
        simpa using this
end
end Go.Proofs.Ythbmlioknnhleaa.Abs

/- The abstract machine: arithmetic, comparing, converting, cutting: what it tells is so. -/
namespace Go.Proofs.Ythbmlioknnhleaa.Abs
open Go

section
variable {P : Program} {M : Mem} {ρ : Rho} {β : Nat → Option Nat} {hp : List Blk} {w : World}

theorem guard_false : ∀ (d t : Nat) (l : List LK), leavesT P d t = some l → ∀ D, d ≤ D → P.eqGuardType D t = false := by
  intro d
  induction d with
  | zero => intro t l h; simp [leavesT] at h
  | succ d ih =>
    intro t l h D hD
    obtain ⟨D, rfl⟩ : ∃ n, D = n + 1 := ⟨D - 1, by omega⟩
    unfold leavesT at h
    unfold Program.eqGuardType
    cases hu : P.underlying t with
    | none => rfl
    | some k =>
      rw [hu] at h
      cases k <;> simp at h ⊢
      case array n e =>
        cases hl : leavesT P d e with
        | none => simp [hl] at h
        | some le => exact ih e le hl D (by omega)
      case struct fs =>
        obtain ⟨_, h⟩ := h
        have key : ∀ (gs : List Field) (l : List LK) (s : Nat), leavesF P (leavesT P d) gs s = some l → ∀ f ∈ gs, P.eqGuardType D f.type = false := by
          intro gs
          induction gs with
          | nil => intro l s _ f hf; cases hf
          | cons g gs ihg =>
            intro l s hl f hf
            simp only [leavesF] at hl
            cases hlf : leavesT P d g.type with
            | none => simp [hlf] at hl
            | some le =>
              cases hi : P.info? g.type with
              | none => simp [hlf, hi] at hl
              | some i =>
                simp only [hlf, hi] at hl
                split at hl
                · simp only [Option.map_eq_some_iff] at hl
                  obtain ⟨lr, hlr, rfl⟩ := hl
                  rcases List.mem_cons.1 hf with rfl | hf
                  · exact ih _ le hlf D (by omega)
                  · exact ihg lr _ hlr f hf
                · cases hl
        intro i hi _
        exact key fs.toList l 0 h _ (by simp)

theorem eqCells_cons {l : LK} {ls : List LK} {x y : AV} {xs ys : List AV} {r : Bool} (h : eqCells (l :: ls) (x :: xs) (y :: ys) = some r) :
    (∃ k a b r', l = .int ∧ x = .int k a ∧ y = .int k b ∧ eqCells ls xs ys = some r' ∧ r = (decide (a = b) && r')) ∨ (∃ a b r', l = .bool ∧ x = .bool a ∧ y = .bool b ∧ eqCells ls xs ys = some r' ∧ r = ((a == b) && r')) ∨
    (∃ a b r', l = .str ∧ x = .str a ∧ y = .str b ∧ eqCells ls xs ys = some r' ∧ r = ((a.toList == b.toList) && r')) := by
  unfold eqCells at h
  split at h
  · rename_i h1 h2 h3; cases h1
  · rename_i ls' k a xs' k' b ys' h1 h2 h3
    cases h1; cases h2; cases h3
    split at h
    · rename_i hk
      subst hk
      simp only [Option.map_eq_some_iff] at h
      obtain ⟨r', hr, rfl⟩ := h
      exact .inl ⟨k, a, b, r', rfl, rfl, rfl, hr, rfl⟩
    · cases h
  · rename_i ls' a xs' b ys' h1 h2 h3
    cases h1; cases h2; cases h3
    simp only [Option.map_eq_some_iff] at h
    obtain ⟨r', hr, rfl⟩ := h
    exact .inr (.inl ⟨a, b, r', rfl, rfl, rfl, hr, rfl⟩)
  · rename_i ls' a xs' b ys' h1 h2 h3
    cases h1; cases h2; cases h3
    simp only [Option.map_eq_some_iff] at h
    obtain ⟨r', hr, rfl⟩ := h
    exact .inr (.inr ⟨a, b, r', rfl, rfl, rfl, hr, rfl⟩)
  · cases h

theorem eqCells_rel : ∀ (ls : List LK) (xs ys : List AV) (r : Bool) (us vs : List Value), eqCells ls xs ys = some r → us.length = xs.length → vs.length = ys.length →
    (∀ (j : Nat) x u, xs[j]? = some x → us[j]? = some u → VRel M ρ hp x u) → (∀ (j : Nat) x u, ys[j]? = some x → vs[j]? = some u → VRel M ρ hp x u) → Pairs ls us vs ∧ eqVs us vs = r := by
  intro ls
  induction ls with
  | nil =>
    intro xs ys r us vs h h1 h2 _ _
    cases xs with
    | cons x xs => cases ys <;> simp [eqCells] at h
    | nil =>
      cases ys with
      | cons y ys => simp [eqCells] at h
      | nil =>
        simp [eqCells] at h
        simp only [List.length_nil, List.length_eq_zero_iff] at h1 h2
        subst h1; subst h2; subst h
        exact ⟨trivial, rfl⟩
  | cons l ls ih =>
    intro xs ys r us vs h h1 h2 hx hy
    cases xs with
    | nil => cases l <;> simp [eqCells] at h
    | cons x xs =>
      cases ys with
      | nil => cases l <;> cases x <;> simp [eqCells] at h
      | cons y ys =>
        cases us with
        | nil => simp at h1
        | cons u us =>
          cases vs with
          | nil => simp at h2
          | cons v vs =>
            have reck : ∀ r', eqCells ls xs ys = some r' → Pairs ls us vs ∧ eqVs us vs = r' := fun r' hr =>
              ih xs ys r' us vs hr (by simpa using h1) (by simpa using h2) (fun j x u a b => hx (j + 1) x u (by simpa using a) (by simpa using b)) (fun j x u a b => hy (j + 1) x u (by simpa using a) (by simpa using b))
            have h0 := hx 0 x u rfl rfl
            have h0' := hy 0 y v rfl rfl
            rcases eqCells_cons h with ⟨k, a, b, r', rfl, rfl, rfl, hr, rfl⟩ | ⟨a, b, r', rfl, rfl, rfl, hr, rfl⟩ | ⟨a, b, r', rfl, rfl, rfl, hr, rfl⟩
            · obtain ⟨p, q⟩ := reck r' hr
              rw [h0.int_inv, h0'.int_inv]
              exact ⟨⟨⟨k, a, b, rfl, rfl⟩, p⟩, by simp only [eqVs, eqV, q]; rfl⟩
            · obtain ⟨p, q⟩ := reck r' hr
              rw [h0.bool_inv, h0'.bool_inv]
              exact ⟨⟨⟨a, b, rfl, rfl⟩, p⟩, by simp only [eqVs, eqV, q]⟩
            · obtain ⟨p, q⟩ := reck r' hr
              rw [h0.str_inv, h0'.str_inv]
              exact ⟨⟨⟨a, b, rfl, rfl⟩, p⟩, by simp only [eqVs, eqV, q]⟩

theorem bytesLt_eq : ∀ x y, bytesLt x y = Op.bytesLess x y
  | _, [] => by simp [bytesLt, Op.bytesLess]
  | [], _ :: _ => by simp [bytesLt, Op.bytesLess]
  | a :: x, b :: y => by simp only [bytesLt, Op.bytesLess, bytesLt_eq x y]

theorem depth_ge (P : Program) : 6 ≤ P.depth := by unfold Program.depth Made.depth; omega

theorem binI_rel {op : BinOp} {k : IntKind} {a b : Int} {v : AV} (hv : binI op k a b = some v) (t : Nat) :
    ∃ u, (binOp op t (.int k a) (.int k b)).run P w = .ok u w ∧ VRel M ρ hp v u := by
  unfold binI at hv
  cases op <;> simp only at hv
  case add => cases hv; exact ⟨_, by simp [binOp, Op.intArith] <;> rfl, .int _ _⟩
  case sub => cases hv; exact ⟨_, by simp [binOp, Op.intArith] <;> rfl, .int _ _⟩
  case mul => cases hv; exact ⟨_, by simp [binOp, Op.intArith] <;> rfl, .int _ _⟩
  case quo =>
    split at hv
    · cases hv
    · rename_i hb; cases hv; exact ⟨_, by simp [binOp, Op.intDiv, hb] <;> rfl, .int _ _⟩
  case rem =>
    split at hv
    · cases hv
    · rename_i hb; cases hv; exact ⟨_, by simp [binOp, Op.intDiv, hb] <;> rfl, .int _ _⟩
  case and => cases hv; exact ⟨_, by simp only [binOp, ne_eq, not_true_eq_false, if_false, Op.intBits, Sem.run_pure] <;> rfl, .int _ _⟩
  case or => cases hv; exact ⟨_, by simp only [binOp, ne_eq, not_true_eq_false, if_false, Op.intBits, Sem.run_pure] <;> rfl, .int _ _⟩
  case xor => cases hv; exact ⟨_, by simp only [binOp, ne_eq, not_true_eq_false, if_false, Op.intBits, Sem.run_pure] <;> rfl, .int _ _⟩
  case andNot => cases hv; exact ⟨_, by simp only [binOp, ne_eq, not_true_eq_false, if_false, Op.intBits, Sem.run_pure] <;> rfl, .int _ _⟩
  case eql => cases hv; exact ⟨.bool (decide (a = b)), by simp [binOp, Op.intCmp] <;> rfl, .bool _⟩
  case neq => cases hv; exact ⟨.bool (!decide (a = b)), by simp [binOp, Op.intCmp] <;> rfl, .bool _⟩
  case lss => cases hv; exact ⟨.bool (decide (a < b)), by simp [binOp, Op.intCmp], .bool _⟩
  case leq => cases hv; exact ⟨.bool (decide (a ≤ b)), by simp [binOp, Op.intCmp], .bool _⟩
  case gtr => cases hv; exact ⟨.bool (decide (b < a)), by simp [binOp, Op.intCmp], .bool _⟩
  case geq => cases hv; exact ⟨.bool (decide (b ≤ a)), by simp [binOp, Op.intCmp], .bool _⟩
  all_goals cases hv

theorem bin_rel {leaf : Option (List LK)} {op : BinOp} {t : Nat} {x y v : AV} {ox oy : Operand} {u1 u2 : Value} (hv : binA leaf op x y = some v)
    (hl : ∀ ls, leaf = some ls → leavesT P 6 t = some ls ∧ agg? (tyOf P t) = true) (h1 : VRel M ρ hp x u1) (h2 : VRel M ρ hp y u2) :
    ∃ u, ((do eqGuard op t ox oy u1 u2; binOp op t u1 u2) : Sem Value).run P w = .ok u w ∧ VRel M ρ hp v u := by
  unfold binA at hv
  split at hv
  · rename_i k a k' b
    rw [h1.int_inv, h2.int_inv]
    have hg : (eqGuard op t ox oy (.int k a) (.int k' b)).run P w = .ok () w := by
      unfold eqGuard; split <;> simp
    simp only [Sem.run_bind, hg, Result.andThen_ok]
    split at hv
    · split at hv
      · cases hv
      · rename_i hb; cases hv; exact ⟨_, by simp only [binOp, Op.shift, if_neg hb, Sem.run_pure] <;> rfl, .int _ _⟩
    · split at hv
      · cases hv
      · rename_i hb; cases hv; exact ⟨_, by simp only [binOp, Op.shift, if_neg hb, Sem.run_pure] <;> rfl, .int _ _⟩
    · split at hv
      · rename_i hk; subst hk; exact binI_rel hv t
      · cases hv
  · rename_i a b
    rw [h1.str_inv, h2.str_inv]
    have hg : (eqGuard op t ox oy (.string a) (.string b)).run P w = .ok () w := by
      unfold eqGuard; split <;> simp
    simp only [Sem.run_bind, hg, Result.andThen_ok]
    unfold binS at hv
    cases op <;> simp only at hv
    case add =>
      split at hv
      · rename_i hs
        cases hv
        refine ⟨.string (a ++ b), ?_, .str _⟩
        have : ¬ (((a.size + b.size : Nat) : Int) > IntKind.i64.max) := by
          unfold most at hs
          simp only [IntKind.max, IntKind.signed, IntKind.bits, if_true]
          omega
        simp only [binOp, Op.stringOp, if_neg this, Sem.run_pure]
      · cases hv
    case eql => cases hv; exact ⟨_, by simp only [binOp, Op.stringOp, Sem.run_pure] <;> rfl, .bool _⟩
    case neq => cases hv; exact ⟨_, by simp only [binOp, Op.stringOp, Sem.run_pure] <;> rfl, .bool _⟩
    case lss => cases hv; exact ⟨_, by simp only [binOp, Op.stringOp, Sem.run_pure, ← bytesLt_eq] <;> rfl, .bool _⟩
    case leq => cases hv; exact ⟨_, by simp only [binOp, Op.stringOp, Sem.run_pure, ← bytesLt_eq] <;> rfl, .bool _⟩
    case gtr => cases hv; exact ⟨_, by simp only [binOp, Op.stringOp, Sem.run_pure, ← bytesLt_eq] <;> rfl, .bool _⟩
    case geq => cases hv; exact ⟨_, by simp only [binOp, Op.stringOp, Sem.run_pure, ← bytesLt_eq] <;> rfl, .bool _⟩
    all_goals cases hv
  · rename_i a b
    cases h1 with
    | @agg _ c1 hs1 _ h1 =>
      cases h2 with
      | @agg _ c2 hs2 _ h2 =>
        have key : ∀ ls r, leaf = some ls → eqCells ls a b = some r → (eqGuard op t ox oy (.agg c1) (.agg c2)).run P w = .ok () w ∧ (Op.equalIn 10000 t (.agg c1) (.agg c2)).run P w = .ok r w := by
          intro ls r hls hr
          obtain ⟨hlv, hag⟩ := hl ls hls
          obtain ⟨hp1, hq⟩ := eqCells_rel ls a b r c1.toList c2.toList hr (by simpa using hs1) (by simpa using hs2) (fun j x u p q => h1 j x u p (by simpa using q)) (fun j x u p q => h2 j x u p (by simpa using q))
          refine ⟨run_eqGuard_agg w op t ox oy c1 c2 (guard_false 6 t ls hlv _ (depth_ge P)), ?_⟩
          have := equalIn_run 6 t ls hlv 10000 w (.agg c1) (.agg c2) (by omega) (by unfold Formed; rw [if_pos hag]; exact ⟨_, rfl⟩) (by unfold Formed; rw [if_pos hag]; exact ⟨_, rfl⟩) hp1
          rw [this]
          show Result.ok (eqVs c1.toList c2.toList) w = _
          rw [hq]
        split at hv
        · simp only [Option.bind_eq_some_iff, Option.map_eq_some_iff] at hv
          obtain ⟨ls, hls, r, hr, rfl⟩ := hv
          obtain ⟨k1, k2⟩ := key ls r hls hr
          exact ⟨.bool r, by simp only [Sem.run_bind, k1, Result.andThen_ok, run_eql_struct, k2], .bool _⟩
        · simp only [Option.bind_eq_some_iff, Option.map_eq_some_iff] at hv
          obtain ⟨ls, hls, r, hr, rfl⟩ := hv
          obtain ⟨k1, k2⟩ := key ls r hls hr
          exact ⟨.bool (!r), by simp only [Sem.run_bind, k1, Result.andThen_ok, run_neq_struct, k2], .bool _⟩
        · cases hv
  · cases hv

theorem run_equal_bool (t : Nat) (ht : P.underlying t = some .bool) (a b : Bool) : (Op.equal t (.bool a) (.bool b)).run P w = .ok (a == b) w := by
  have : ∀ d, (Op.equalIn (d + 1) t (.bool a) (.bool b)).run P w = .ok (a == b) w := fun d => by
    simp only [Op.equalIn, Sem.run_bind, run_underlying ht, Result.andThen_ok, Sem.run_pure]
  exact this 9999

theorem run_equal_nil (t : Nat) {e : Nat} (ht : P.underlying t = some (.slice e)) : (Op.equal t (.slice none 0 0) (.slice none 0 0)).run P w = .ok true w := by
  have : ∀ d, (Op.equalIn (d + 1) t (.slice none 0 0) (.slice none 0 0)).run P w = .ok true w := fun d => by
    simp only [Op.equalIn, Sem.run_bind, run_underlying ht, Result.andThen_ok, Sem.run_pure, Option.isNone_none]
  exact this 9999
theorem run_equal_some (t : Nat) {e : Nat} (ht : P.underlying t = some (.slice e)) (b : Addr) (m c : Nat) : (Op.equal t (.slice (some b) m c) (.slice none 0 0)).run P w = .ok false w := by
  have : ∀ d, (Op.equalIn (d + 1) t (.slice (some b) m c) (.slice none 0 0)).run P w = .ok false w := fun d => by
    simp only [Op.equalIn, Sem.run_bind, run_underlying ht, Result.andThen_ok, Sem.run_pure]
  exact this 9999
theorem binT_rel {op : BinOp} {t : Nat} {x y v : AV} {ox oy : Operand} {u1 u2 : Value} (hv : binT (tiOf P t) op x y = some v)
    (hl : ∀ ls, (tiOf P t).bind (·.leaf) = some ls → leavesT P 6 t = some ls ∧ agg? (tyOf P t) = true) (hb : ∀ ti, tiOf P t = some ti → ti.d = .bool → P.underlying t = some .bool) (hs : ∀ ti e, tiOf P t = some ti → ti.d = .slice e → P.underlying t = some (.slice e)) (h1 : VRel M ρ hp x u1) (h2 : VRel M ρ hp y u2) :
    ∃ u, ((do eqGuard op t ox oy u1 u2; binOp op t u1 u2) : Sem Value).run P w = .ok u w ∧ VRel M ρ hp v u := by
  unfold binT at hv
  split at hv
  · rename_i a b
    rw [h1.bool_inv, h2.bool_inv]
    have hg : (eqGuard op t ox oy (.bool a) (.bool b)).run P w = .ok () w := by
      unfold eqGuard; split <;> simp
    simp only [Sem.run_bind, hg, Result.andThen_ok]
    simp only [Option.bind_eq_some_iff] at hv
    obtain ⟨ti, hti, hv⟩ := hv
    split at hv
    · rename_i hd
      cases hv
      exact ⟨.bool (a == b), by simp [binOp, run_equal_bool t (hb ti hti hd)], .bool _⟩
    · rename_i hd
      cases hv
      exact ⟨.bool (!(a == b)), by simp [binOp, run_equal_bool t (hb ti hti hd)], .bool _⟩
    · cases hv
  · cases h1
    cases h2
    simp only [Option.bind_eq_some_iff] at hv
    obtain ⟨ti, hti, hv⟩ := hv
    have hg : (eqGuard op t ox oy (.slice none 0 0) (.slice none 0 0)).run P w = .ok () w := by
      unfold eqGuard; split <;> simp
    simp only [Sem.run_bind, hg, Result.andThen_ok]
    split at hv
    · rename_i e hd
      cases hv
      exact ⟨.bool true, by simp [binOp, run_equal_nil t (hs ti _ hti hd)], .bool _⟩
    · rename_i e hd
      cases hv
      exact ⟨.bool false, by simp [binOp, run_equal_nil t (hs ti _ hti hd)], .bool _⟩
    · cases hv
  · rename_i n q
    cases h2
    cases h1 with
    | vi h1 hz =>
      obtain ⟨a, m, c, rfl⟩ : ∃ a m c, u1 = .slice a m c := by cases h1 <;> exact ⟨_, _, _, rfl⟩
      have hnn : ¬ (n = 0 ∧ ¬ q 0 0 = 0) → ∃ b, a = some b := fun hc => by
        cases a with
        | some b => exact ⟨b, rfl⟩
        | none =>
          cases h1 with
          | vf0 => exact absurd rfl (hz rfl (Classical.byContradiction fun h => hc ⟨rfl, h⟩) _ _)
      have hg : (eqGuard op t ox oy (.slice a m c) (.slice none 0 0)).run P w = .ok () w := by
        unfold eqGuard; split <;> simp
      simp only [Option.bind_eq_some_iff] at hv
      obtain ⟨ti, hti, hv⟩ := hv
      simp only [Sem.run_bind, hg, Result.andThen_ok]
      split at hv
      · rename_i e hd
        split at hv
        · cases hv
        · rename_i hc
          obtain ⟨b, rfl⟩ := hnn hc
          cases hv
          exact ⟨.bool false, by simp [binOp, run_equal_some t (hs ti _ hti hd)], .bool _⟩
      · rename_i e hd
        split at hv
        · cases hv
        · rename_i hc
          obtain ⟨b, rfl⟩ := hnn hc
          cases hv
          exact ⟨.bool true, by simp [binOp, run_equal_some t (hs ti _ hti hd)], .bool _⟩
      · cases hv
  · exact bin_rel hv hl h1 h2

theorem binH_rel {op : BinOp} {t : Nat} {x y v : AV} {ox oy : Operand} {u1 u2 : Value} (hv : binH (tiOf P t) hp op x y = some v)
    (hl : ∀ ls, (tiOf P t).bind (·.leaf) = some ls → leavesT P 6 t = some ls ∧ agg? (tyOf P t) = true) (hb : ∀ ti, tiOf P t = some ti → ti.d = .bool → P.underlying t = some .bool) (hs : ∀ ti e, tiOf P t = some ti → ti.d = .slice e → P.underlying t = some (.slice e)) (h1 : VRel M ρ hp x u1) (h2 : VRel M ρ hp y u2) :
    ∃ u, ((do eqGuard op t ox oy u1 u2; binOp op t u1 u2) : Sem Value).run P w = .ok u w ∧ VRel M ρ hp v u := by
  unfold binH at hv
  split at hv
  · rename_i k r n tt
    simp only [Option.bind_eq_some_iff] at hv
    obtain ⟨b, hb0, ti, hti, hv⟩ := hv
    cases h2
    cases h1 with
    | @sl _ _ _ _ _ b' l hb' hl' ht ho h =>
      have hbt : tt = b'.rows.length := by
        unfold fresh at hb0
        rw [hb'] at hb0
        simp only at hb0
        cases hq : (tt == b'.rows.length) with
        | true => simpa using hq
        | false => rw [hq] at hb0; cases hb0
      obtain ⟨off, cap, rfl, _⟩ := h hbt
      have hg : (eqGuard op t ox oy (.slice (some ⟨l.blk, off, none⟩) n cap) (.slice none 0 0)).run P w = .ok () w := by
        unfold eqGuard; split <;> simp
      simp only [Sem.run_bind, hg, Result.andThen_ok]
      split at hv
      · rename_i e hd
        cases hv
        exact ⟨.bool false, by simp [binOp, run_equal_some t (hs ti _ hti hd)], .bool _⟩
      · rename_i e hd
        cases hv
        exact ⟨.bool true, by simp [binOp, run_equal_some t (hs ti _ hti hd)], .bool _⟩
      · cases hv
  · exact binT_rel hv hl hb hs h1 h2

theorem un_rel {op : UnOp} {x v : AV} {u : Value} (hv : unA op x = some v) (h : VRel M ρ hp x u) : ∃ u', (Op.unary op u).run P w = .ok u' w ∧ VRel M ρ hp v u' := by
  unfold unA at hv
  split at hv
  · rw [h.int_inv]; cases hv; exact ⟨_, by simp only [Op.unary, Op.intArith, Sem.run_pure] <;> rfl, .int _ _⟩
  · rw [h.bool_inv]; cases hv; exact ⟨_, by simp only [Op.unary, Sem.run_pure] <;> rfl, .bool _⟩
  · cases hv

theorem foldI_rel {f : Int → Int → Int} {g : Value → Value → Sem Value} (hg : ∀ k a k' b, (g (.int k a) (.int k' b)).run P w = .ok (.int k (f a b)) w) :
    ∀ (l : List AV) (k : IntKind) (n : Int) (v : AV) (us : List Value), foldI f k n l = some v → us.length = l.length → (∀ (j : Nat) x u, l[j]? = some x → us[j]? = some u → ERel M ρ β hp x u) →
    ∃ u, (us.foldlM g (.int k n)).run P w = .ok u w ∧ VRel M ρ hp v u := by
  intro l
  induction l with
  | nil =>
    intro k n v us h hl _
    simp [foldI] at h
    simp only [List.length_nil, List.length_eq_zero_iff] at hl
    subst hl; subst h
    exact ⟨_, by simp <;> rfl, .int _ _⟩
  | cons x l ih =>
    intro k n v us h hl hr
    cases us with
    | nil => simp at hl
    | cons u us =>
      cases x <;> simp [foldI] at h
      rename_i k' m
      have hu := (hr 0 _ u rfl rfl).int_inv
      subst hu
      obtain ⟨u', hu', hv'⟩ := ih k (f n m) v us h (by simpa using hl) (fun j x u a b => hr (j + 1) x u (by simpa using a) (by simpa using b))
      exact ⟨u', by simp only [List.foldlM_cons, Sem.run_bind, hg, Result.andThen_ok, hu'], hv'⟩

end
end Go.Proofs.Ythbmlioknnhleaa.Abs

/- The abstract machine's operations on memory: loads, stores, new variables and blocks. -/
namespace Go.Proofs.Ythbmlioknnhleaa.Abs
open Go

/-! ### many cells written -/
theorem setCells_frame (b : Nat) : ∀ (vs : List Value) (o : Nat) (w : World), (w.setCells b o vs).os = w.os ∧ (w.setCells b o vs).tape = w.tape ∧ (w.setCells b o vs).output = w.output ∧ (w.setCells b o vs).heap.size = w.heap.size ∧
    ∀ g, g ≠ b → (w.setCells b o vs).heap[g]? = w.heap[g]?
  | [], _, _ => ⟨rfl, rfl, rfl, rfl, fun _ _ => rfl⟩
  | v :: r, o, w => by
    obtain ⟨h1, h2, h3, h4, h5⟩ := setCells_frame b r (o + 1) (w.setCell ⟨b, o, none⟩ v)
    refine ⟨h1, h2, h3, by rw [World.setCells, h4, World.size_setCell], fun g hg => ?_⟩
    rw [World.setCells, h5 g hg]
    exact RowKit.Below.heap_setCell w ⟨b, o, none⟩ v g hg

theorem Adv.setCells (w : World) (b o : Nat) (vs : List Value) : Adv w (w.setCells b o vs) :=
  let ⟨h1, h2, h3, h4, _⟩ := setCells_frame b vs o w
  ⟨h1, h2, h3, by rw [h4]; exact Nat.le_refl _, by
    have : ∀ (vs : List Value) (o : Nat) (w : World), (w.setCells b o vs).drawn = w.drawn := by
      intro vs
      induction vs with
      | nil => intro o w; rfl
      | cons v vs ih => intro o w; rw [World.setCells, ih]; unfold World.setCell; (repeat' split) <;> rfl
    rw [this]; exact Nat.le_refl _⟩

theorem setCells_at (b : Nat) : ∀ (vs : List Value) (o : Nat) (w : World) (c : Array Value) (e : TypeId), w.heap[b]? = some (.cells c e (0, 0)) → o + vs.length ≤ c.size →
    ∃ c', (w.setCells b o vs).heap[b]? = some (.cells c' e (0, 0)) ∧ c'.size = c.size ∧ ∀ p, c'[p]? = if o ≤ p ∧ p < o + vs.length then vs[p - o]? else c[p]?
  | [], o, w, c, e, h, _ => ⟨c, h, rfl, fun p => by rw [if_neg (by rintro ⟨h1, h2⟩; simp at h2; omega)]⟩
  | v :: r, o, w, c, e, h, hs => by
    have h' : (w.setCell ⟨b, o, none⟩ v).heap[b]? = some (.cells (c.setIfInBounds o v) e (0, 0)) := by
      simp only [World.setCell, Array.getElem?_modify, h, if_true, Option.map_some]
      rfl
    simp only [List.length_cons] at hs
    obtain ⟨c', h1, h2, h3⟩ := setCells_at b r (o + 1) _ _ e h' (by simp; omega)
    refine ⟨c', h1, by rw [h2]; simp, fun p => ?_⟩
    rw [h3]
    simp only [List.length_cons]
    by_cases hp : p = o
    · subst hp
      rw [if_neg (by omega), if_pos (by omega)]
      have hlt : p < c.size := by omega
      simp [hlt]
    · by_cases hq : o + 1 ≤ p ∧ p < o + 1 + r.length
      · rw [if_pos hq, if_pos (by omega), show p - o = (p - (o + 1)) + 1 by omega]
        simp
      · rw [if_neg hq, if_neg (by omega)]
        rw [Array.getElem?_setIfInBounds_ne (by omega)]

section
variable {P : Program} {M : Mem} {ρ : Rho} {β : Nat → Option Nat} {hp : List Blk} {lo : List (Nat × List AV)} {w : World}

theorem cell_at {g : Nat} {c : Array Value} {e : TypeId} {f : Nat × Nat} (h : w.heap[g]? = some (.cells c e f)) (j : Nat) : w.cell? ⟨g, j, none⟩ = c[j]? := by
  simp [World.cell?, h]
theorem frozen_at {g : Nat} {c : Array Value} {e : TypeId} (h : w.heap[g]? = some (.cells c e (0, 0))) (j : Nat) : w.frozen? ⟨g, j, none⟩ = false := by
  simp [World.frozen?, h]

/-- what a load gives -/
theorem load_rel {t : Nat} {ti : TI} (ht : tiOf P t = some ti) {g base q : Nat} {c : Array Value} {e : TypeId} {f : Nat × Nat} (hH : w.heap[g]? = some (.cells c e f)) {row : List AV} (hone : OneIn c base row.length)
    (hin : base + row.length ≤ c.size) (hc : ∀ (j : Nat) x u, row[j]? = some x → c[base + j]? = some u → VRel M ρ hp x u) {x : AV} (hx : partOf ti row q = some x) :
    ∃ u, (loadVar t ⟨g, base + q, none⟩).run P w = .ok u w ∧ VRel M ρ hp x u := by
  obtain ⟨i, z, d, hi, _, _, _, htd, hsz, _, hd, _⟩ := tiOf_some ht
  unfold partOf at hx
  rw [htd] at hx
  cases ha : agg? (tyOf P t) with
  | true =>
    rw [ha] at hx
    simp only [cond_true] at hx
    split at hx
    · rename_i hle
      cases hx
      have hrow : d.isRow = true := by
        have := agg_eq (P := P) (t := t)
        rw [ha, hd] at this
        cases d <;> simp at this ⊢
      have hl := run_loadVar_mid (P := P) w g (base + q) t (c.extract (base + q) (base + q + i.size)).toList d (fun j v hv => by
        rw [cell_at hH]
        rw [Array.getElem?_toList, Array.getElem?_extract] at hv
        split at hv
        · exact hv
        · cases hv) hd hrow (by rw [hi]; simp; omega)
      refine ⟨_, hl, ?_⟩
      rw [← hsz]
      refine .agg (by simp; omega) (fun j u hu => ?_) fun j y u hy hu => ?_
      · simp only [List.getElem?_toArray, Array.getElem?_toList, Array.getElem?_extract] at hu
        split at hu
        · rename_i hlt
          exact hone (q + j) u (by omega) (by rw [← Nat.add_assoc]; exact hu)
        · cases hu
      · simp only [List.getElem?_toArray, Array.getElem?_toList, Array.getElem?_extract] at hu
        rw [List.getElem?_take] at hy
        split at hy
        · rw [List.getElem?_drop] at hy
          split at hu
          · exact hc _ _ _ hy (by rw [← Nat.add_assoc]; exact hu)
          · cases hu
        · cases hy
    · cases hx
  | false =>
    rw [ha] at hx
    simp only [cond_false] at hx
    have hq := (List.getElem?_eq_some_iff.1 hx).1
    have hlt : base + q < c.size := by omega
    refine ⟨c[base + q], ?_, hc q x _ hx (by simp [hlt])⟩
    unfold loadVar
    simp only [Sem.run_bind, run_isAgg' hd, ha, Result.andThen_ok, Bool.false_eq_true, if_false, run_load, cell_at hH]
    simp [hlt]

/-- what a store does -/
theorem store_rel {t : Nat} {ti : TI} (ht : tiOf P t = some ti) {g q : Nat} {c : Array Value} {e : TypeId} (hH : w.heap[g]? = some (.cells c e (0, 0))) {x : AV} {u : Value} (hx : VRel M ρ hp x u) (hn : x.noL = true)
    (hs : x.cells.length = ti.size) (hin : q + ti.size ≤ c.size) :
    (storeVar t ⟨g, q, none⟩ u).run P w = .ok () (w.setCells g q u.cells.toList) := by
  obtain ⟨i, z, d, hi, _, _, _, htd, hsz, _, hd, _⟩ := tiOf_some ht
  obtain ⟨h1, h2, h3⟩ := cells_rel hx hn
  have hsize : u.cells.size = i.size := by omega
  have hst := run_storeCells_cells (P := P) g q u.cells.toList 0 w (fun j hj => by rw [Nat.add_zero, cell_at hH]; simp at hj; simp; omega) (fun j hj => by rw [Nat.add_zero, frozen_at hH])
    (fun v hv => by obtain ⟨j, hj⟩ := List.mem_iff_getElem?.1 hv; exact h2 j v (by simpa using hj))
  unfold storeVar
  simp only [Sem.run_bind, run_sizeOf' hi, Result.andThen_ok, hsize, ne_eq, not_true_eq_false, if_false]
  simpa using hst

/-- a row after a store -/
theorem storeRow_get {x : AV} {row : List AV} {q : Nat} (hin : q + x.cells.length ≤ row.length) (hn : x.noL = true) (j : Nat) :
    (storeRow x row q).length = row.length ∧ (storeRow x row q)[j]? = if q ≤ j ∧ j < q + x.cells.length then x.cells[j - q]? else row[j]? := by
  have agg : ∀ cs : List AV, q + cs.length ≤ row.length → (splice row q cs).length = row.length ∧ (splice row q cs)[j]? = if q ≤ j ∧ j < q + cs.length then cs[j - q]? else row[j]? := by
    intro cs hcs
    unfold splice
    by_cases h0 : q = 0 ∧ cs.length = row.length
    · rw [if_pos h0]
      obtain ⟨rfl, h0⟩ := h0
      refine ⟨h0, ?_⟩
      by_cases hj : j < cs.length
      · rw [if_pos (by omega)]; rfl
      · rw [if_neg (by omega), List.getElem?_eq_none (by omega), List.getElem?_eq_none (by omega)]
    · rw [if_neg h0]
      refine ⟨by simp; omega, ?_⟩
      by_cases hj : j < q
      · rw [if_neg (by omega), List.getElem?_append_left (by simp; omega), List.getElem?_take, if_pos hj]
      · rw [List.getElem?_append_right (by simp; omega)]
        have hl : (row.take q).length = q := by simp; omega
        rw [hl]
        by_cases hj2 : j < q + cs.length
        · rw [if_pos (by omega), List.getElem?_append_left (by omega)]
        · rw [if_neg (by omega), List.getElem?_append_right (by omega), List.getElem?_drop]
          congr 1
          omega
  by_cases ha : ∃ cs, x = .agg cs
  · obtain ⟨cs, rfl⟩ := ha
    exact agg cs hin
  · have hx' : x.cells = [x] := by cases x <;> first | rfl | exact absurd ⟨_, rfl⟩ ha
    have hr : storeRow x row q = row.set q x := by cases x <;> first | rfl | exact absurd ⟨_, rfl⟩ ha
    rw [hr, hx']
    rw [hx'] at hin
    simp only [List.length_cons, List.length_nil, Nat.zero_add] at hin ⊢
    refine ⟨by simp, ?_⟩
    rw [List.getElem?_set]
    by_cases hj : q = j
    · subst hj
      rw [if_pos rfl, if_pos (by omega), if_pos (by omega)]
      simp
    · rw [if_neg hj, if_neg (by omega)]

/-- what holds behind an operation -/
def PostE (M : Mem) (ρ : Rho) (β : Nat → Option Nat) (hp : List Blk) (lo : List (Nat × List AV)) (w : World) (dst : Option Nat) (e : Eff) (u : Value) (w' : World) : Prop :=
  ∃ M' ρ' β', SubM M M' ∧ Ext ρ hp ρ' (e.hp.getD hp) ∧ Real M' ρ' β' (e.hp.getD hp) (putL lo e.lo) w'.heap ∧ ERel M' ρ' β' (e.hp.getD hp) e.v u ∧ Adv w w' ∧
    (β' = β ∨ ∃ d g, dst = some d ∧ e.v = .lptr d 0 ∧ β' = upd β d g)

theorem post_value {o : Oper} {a : Act} {e : Eff} {u : Value} (hR : Real M ρ β hp lo w.heap) (h : (execOp a.eval o).run P w = .ok (.value u) w) (hl : e.lo = none) (hh : e.hp = none) (hv : ERel M ρ β hp e.v u) :
    Outs P o a w (PostE M ρ β hp lo w o.dst e) :=
  .value h ⟨M, ρ, β, SubM.refl _, by rw [hh]; exact Ext.refl _ _, by rw [hl, hh]; exact hR, by rw [hh]; exact hv, Adv.refl _, .inl rfl⟩

theorem fresh_some {k t : Nat} {b : Blk} (h : fresh hp k t = some b) : hp[k]? = some b ∧ t = b.rows.length := by
  unfold fresh at h
  cases hb : hp[k]? with
  | none => rw [hb] at h; cases h
  | some b' =>
    rw [hb] at h
    simp only at h
    cases ht : (t == b'.rows.length) with
    | false => rw [ht] at h; cases h
    | true => rw [ht] at h; cases h; exact ⟨rfl, by simpa using ht⟩

/-- a load through whatever points -/
theorem loadA_rel {t : Nat} {p x : AV} {v : Value} (hR : Real M ρ β hp lo w.heap) (hx : loadA (tiOf P) lo hp t p = some x) (hp' : ERel M ρ β hp p v) :
    ∃ u, (Instr.loadAt t v).run P w = .ok u w ∧ VRel M ρ hp x u := by
  unfold loadA at hx
  simp only [Option.bind_eq_some_iff] at hx
  obtain ⟨⟨row, q⟩, hrow, ti, ht, hpart⟩ := hx
  unfold rowAt at hrow
  split at hrow
  · rename_i d c
    simp only [Option.map_eq_some_iff] at hrow
    obtain ⟨r, hr, hrq⟩ := hrow
    cases hrq
    obtain ⟨g, hg, rfl⟩ := hp'.lptr_inv
    obtain ⟨cc, e, hv⟩ := hR.var d g row hg hr
    obtain ⟨u, hu, hru⟩ := load_rel (base := 0) (q := q) ht hv.at_ (fun j u _ hu => hv.one _ u hu) (by rw [hv.size]; omega) (fun j x u hx hu => hv.cells j x u hx (by simpa using hu)) hpart
    exact ⟨u, by simpa [Instr.loadAt, Instr.sureAddr] using hu, hru⟩
  · rename_i r c
    cases hrow
    cases hp'.v (fun _ _ e => by cases e) with
    | vp hM hone hin h =>
      obtain ⟨u, hu, hru⟩ := load_rel (q := q) ht (hR.mem _ _ hM) hone hin h hpart
      exact ⟨u, by simpa [Instr.loadAt, Instr.sureAddr] using hu, hru⟩
  · rename_i k r c tt
    simp only [Option.bind_eq_some_iff, Option.map_eq_some_iff] at hrow
    obtain ⟨b, hb, row', hrow', hrq⟩ := hrow
    cases hrq
    obtain ⟨hb1, hb2⟩ := fresh_some hb
    cases hp'.v (fun _ _ e => by cases e) with
    | @ptr _ _ _ _ _ b' l hb' hl _ _ h =>
      rw [hb1] at hb'
      cases hb'
      rw [h hb2]
      obtain ⟨l', cc, hl', hat⟩ := hR.blk k b hb1
      rw [hl] at hl'
      cases hl'
      have hrl := hat.len row (List.mem_of_getElem? hrow')
      have hri : r < b.rows.length := (List.getElem?_eq_some_iff.1 hrow').1
      have hroom : (r + 1) * b.sz ≤ b.rows.length * b.sz := Nat.mul_le_mul_right _ (by omega)
      rw [Nat.succ_mul] at hroom
      obtain ⟨u, hu, hru⟩ := load_rel (base := r * b.sz) (q := q) ht hat.at_ (fun j u _ hu => hat.one _ u hu) (by rw [hrl, hat.size]; have := hat.room; omega) (fun j x u hx hu => hat.rows r row j x u hrow' hx hu) hpart
      exact ⟨u, by simpa [Instr.loadAt, Instr.sureAddr] using hu, hru⟩
  · cases hrow

/-- a store -/
theorem storeA_rel {t n0 : Nat} {p x : AV} {v u : Value} {e : Eff} (hR : Real M ρ β hp lo w.heap) (he : storeA (tiOf P) lo hp n0 t p x = some e) (hp' : ERel M ρ β hp p v) (hx : ERel M ρ β hp x u) (dst : Option Nat) :
    ∃ w', (Instr.storeAt t v u).run P w = .ok () w' ∧ PostE M ρ β hp lo w dst e undef w' := by
  unfold storeA at he
  split at he
  · rename_i ti ht
    split at he
    · rename_i hc
      obtain ⟨hn, hs⟩ := hc
      have hxv := hx.noL hn
      obtain ⟨k1, k2, k3⟩ := cells_rel hxv hn
      split at he
      · -- a slot's variable
        rename_i d q
        split at he
        · rename_i row hrow
          split at he
          · rename_i hin
            cases he
            obtain ⟨g, hg, rfl⟩ := hp'.lptr_inv
            obtain ⟨c, ty, hv⟩ := hR.var d g row hg hrow
            have hst := store_rel ht hv.at_ hxv hn hs (q := q) (by rw [hv.size]; exact hin)
            obtain ⟨c', hc1, hc2, hc3⟩ := setCells_at g u.cells.toList q w c ty hv.at_ (by simp; rw [hv.size]; omega)
            obtain ⟨_, _, _, f4, f5⟩ := setCells_frame g u.cells.toList q w
            refine ⟨_, by simpa [Instr.storeAt, Instr.sureAddr] using hst, M, ρ, β, SubM.refl _, Ext.refl _ _, ?_, .inr (.undef _), Adv.setCells _ _ _ _, .inl rfl⟩
            have hsr := fun j => storeRow_get (x := x) (row := row) (q := q) (by omega) hn j
            refine hR.setVar hg (by rw [f4]; exact Nat.le_refl _) (fun i _ hi => f5 i hi) hv.free hc1 (by rw [hc2, hv.size, (hsr 0).1]) ?_ ?_
            · intro j y hj
              rw [hc3] at hj
              split at hj
              · exact k2 _ _ (by simpa using hj)
              · exact hv.one _ _ hj
            · intro j y z hy hz
              rw [hc3] at hz
              rw [(hsr j).2] at hy
              simp only [Array.length_toList, k1] at hz
              split at hz
              · rename_i hj
                rw [if_pos hj] at hy
                exact k3 _ _ _ hy (by simpa using hz)
              · rename_i hj
                rw [if_neg hj] at hy
                exact hv.cells _ _ _ hy hz
          · cases he
        · cases he
      · -- a cell of a block
        rename_i k r q tt
        split at he
        · rename_i b hb
          split at he
          · rename_i row hrow
            split at he
            · rename_i hin
              cases he
              obtain ⟨hb1, hb2⟩ := fresh_some hb
              cases hp'.v (fun _ _ e => by cases e) with
              | @ptr _ _ _ _ _ b' l hb' hl _ _ h =>
                rw [hb1] at hb'
                cases hb'
                rw [h hb2]
                obtain ⟨l', c, hl', hat⟩ := hR.blk k b hb1
                rw [hl] at hl'
                cases hl'
                have hrl := hat.len row (List.mem_of_getElem? hrow)
                have hri : r < b.rows.length := (List.getElem?_eq_some_iff.1 hrow).1
                have hroom : (r + 1) * b.sz ≤ b.rows.length * b.sz := Nat.mul_le_mul_right _ (by omega)
                rw [Nat.succ_mul] at hroom
                have hfit : r * b.sz + q + ti.size ≤ c.size := by rw [hat.size]; have := hat.room; omega
                have hst := store_rel ht hat.at_ hxv hn hs (q := r * b.sz + q) hfit
                obtain ⟨c', hc1, hc2, hc3⟩ := setCells_at l.blk u.cells.toList (r * b.sz + q) w c b.e hat.at_ (by simp; omega)
                obtain ⟨_, _, _, f4, f5⟩ := setCells_frame l.blk u.cells.toList (r * b.sz + q) w
                have hsr := fun j => storeRow_get (x := x) (row := row) (q := q) (by omega) hn j
                have hkl : k < hp.length := (List.getElem?_eq_some_iff.1 hb1).1
                have hE : Ext ρ hp (upd ρ k l) (hp.set k { b with rows := b.rows.set r (storeRow x row q) }) := Ext.set (b' := { b with rows := b.rows.set r (storeRow x row q) }) hb1 hl rfl (by simp) (fun _ => rfl)
                refine ⟨_, by simpa [Instr.storeAt, Instr.sureAddr] using hst, M, upd ρ k l, β, SubM.refl _, hE, ?_, .inr (.undef _), Adv.setCells _ _ _ _, .inl rfl⟩
                refine hR.setBlk (b' := { b with rows := b.rows.set r (storeRow x row q) }) (l' := l) hb1 hl rfl (by simp) (fun _ => rfl) (by rw [f4]; exact Nat.le_refl _) (fun i _ hi => f5 i hi) (.inl rfl) hc1 (by rw [hc2, hat.size]) (by simpa using hat.room) ?_ ?_ ?_
                · intro row' hrow'
                  rcases List.mem_or_eq_of_mem_set hrow' with h1 | h1
                  · exact hat.len _ h1
                  · rw [h1, (hsr 0).1, hrl]
                · intro j y hj
                  rw [hc3] at hj
                  split at hj
                  · exact k2 _ _ (by simpa using hj)
                  · exact hat.one _ _ hj
                · intro i' row' j y z hri' hy hz
                  show VRel M (upd ρ k l) _ y z
                  have hz0 : c'[i' * b.sz + j]? = some z := hz
                  rw [hc3] at hz0
                  simp only [Array.length_toList, k1, hs] at hz0
                  have hri'' : (b.rows.set r (storeRow x row q))[i']? = some row' := hri'
                  rw [List.getElem?_set] at hri''
                  by_cases hir : r = i'
                  · subst hir
                    rw [if_pos rfl, if_pos hri] at hri''
                    cases hri''
                    rw [(hsr j).2, hs] at hy
                    by_cases hj : q ≤ j ∧ j < q + ti.size
                    · rw [if_pos hj] at hy
                      rw [if_pos (by omega), show r * b.sz + j - (r * b.sz + q) = j - q by omega] at hz0
                      exact (k3 _ _ _ hy (by simpa using hz0)).mono (SubM.refl _) hE
                    · rw [if_neg hj] at hy
                      rw [if_neg (by omega)] at hz0
                      exact (hat.rows r row j y z hrow hy hz0).mono (SubM.refl _) hE
                  · rw [if_neg hir] at hri''
                    have hl' := hat.len row' (List.mem_of_getElem? hri'')
                    have hj' : j < b.sz := by have := (List.getElem?_eq_some_iff.1 hy).1; omega
                    have hnot : ¬ (r * b.sz + q ≤ i' * b.sz + j ∧ i' * b.sz + j < r * b.sz + q + ti.size) := by
                      rintro ⟨a1, a2⟩
                      rcases Nat.lt_or_gt_of_ne hir with h1 | h1
                      · have := Nat.mul_le_mul_right b.sz (show r + 1 ≤ i' by omega)
                        rw [Nat.succ_mul] at this
                        omega
                      · have := Nat.mul_le_mul_right b.sz (show i' + 1 ≤ r by omega)
                        rw [Nat.succ_mul] at this
                        omega
                    rw [if_neg hnot] at hz0
                    exact (hat.rows i' row' j y z hri'' hy hz0).mono (SubM.refl _) hE
            · cases he
          · cases he
        · cases he
      · cases he
    · cases he
  · cases he

end
end Go.Proofs.Ythbmlioknnhleaa.Abs
