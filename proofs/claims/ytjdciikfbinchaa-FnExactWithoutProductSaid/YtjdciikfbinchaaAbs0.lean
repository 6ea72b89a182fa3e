/- An abstract machine over the translated code: deterministic, without tape and capacities. Definitions. -/
import GoSem.Core.Code
import GoSem.Core.Program
import GoSem.Core.View
namespace Go.Proofs.Ytjdciikfbinchaa.Abs
open Go

/-- What a slot, a cell or a result holds. 'ptr k r c t': heap block k, row r, cell c of it, told while the block had t rows; 'lptr d c': the variable that slot d's 'alloc' or 'box' made; 'sl k r n t': rows r to r+n of block k; 'ssl': n cells of one row; 'vs', 'vp': a slice, a pointer into memory that is never written: its rows, its row. 'vf': a slice there of n rows of scalars, told by a function; 'vi': the same, of whole numbers of one kind; 'vm': n slices there of m i numbers each. -/
inductive AV where
  | undef
  | bool (b : Bool)
  | int (k : IntKind) (n : Int)
  | str (s : ByteArray)
  | ptr (k r c t : Nat)
  | lptr (d c : Nat)
  | nilptr
  | sl (k r n t : Nat)
  | ssl (k r c n t : Nat)
  | vs (sz : Nat) (rows : List (List AV))
  | vp (row : List AV) (c : Nat)
  | vf (sz n : Nat) (f : Nat → List AV)
  | vi (k : IntKind) (sz n : Nat) (q : Nat → Nat → Int)
  | vm (n : Nat) (m : Nat → Nat) (q : Nat → Nat → Int)
  | esl
  | nilsl
  | fn (f : Nat) (caps : List AV)
  | agg (cs : List AV)
  | tup (vs : List AV)
  deriving Inhabited

structure Blk where
  e : Nat
  sz : Nat
  rows : List (List AV)
  deriving Inhabited

structure St where
  env : List (Nat × AV)
  lo : List (Nat × List AV)
  hp : List Blk
  n0 : Nat
  cl : Bool
  deriving Inhabited

/-- What one operation does: the value for its slot; the variable that it sets; the heap, if it turns it; whether it leaves alone what was there when the function began; of a call: below which block it leaves all alone. -/
structure Eff where
  v : AV := .undef
  lo : Option (Nat × List AV) := none
  hp : Option (List Blk) := none
  cl : Bool := true
  low : Nat := 0
  deriving Inhabited

inductive Ty where
  | int (k : IntKind)
  | bool
  | str
  | slice (e : Nat)
  | array (n e : Nat)
  | struct (fs : List (Nat × Nat))
  | other
  deriving Inhabited

/-- the kinds of a value's cells, where it can be compared cell by cell -/
inductive LK where
  | int
  | bool
  | str
  deriving Inhabited, DecidableEq

structure TI where
  d : Ty
  size : Nat
  bytes : Nat
  zero : List AV
  leaf : Option (List LK)
  deriving Inhabited

/-- For one function: the slots whose variables lie in the heap; the slots whose slices are never written; for a loop (told by its first region) the slots, and the variables, that are kept at the head of a round. -/
structure Cfg where
  esc : List Nat := []
  virt : List Nat := []
  keep : List (Nat × List Nat × List Nat) := []
  deriving Inhabited

def agg? : Ty → Bool
  | .array _ _ | .struct _ => true
  | _ => false

/-- what may be stored or handed on -/
def AV.noL : AV → Bool
  | .lptr _ _ | .undef | .tup _ => false
  | _ => true

/-- so many cells of numbers, from the i-th on -/
def cellsFrom (k : IntKind) (q : Nat → Int) : Nat → Nat → List AV
  | _, 0 => []
  | i, n + 1 => .int k (q i) :: cellsFrom k q (i + 1) n
abbrev cellsI (k : IntKind) (sz : Nat) (q : Nat → Int) : List AV := cellsFrom k q 0 sz
/-- what a function tells from the l-th place on -/
def shiftF {α : Type} (l : Nat) (q : Nat → α) : Nat → α := match l with
  | 0 => q
  | l + 1 => fun i => q (l + 1 + i)
theorem shiftF_eq {α : Type} (l : Nat) (q : Nat → α) (i : Nat) : shiftF l q i = q (l + i) := by
  cases l with
  | zero => rw [Nat.zero_add]; rfl
  | succ l => rfl

def AV.cells : AV → List AV
  | .agg cs => cs
  | v => [v]

def isL (d : Nat) : AV → Bool
  | .lptr d' _ => d' == d
  | _ => false

def get (env : List (Nat × AV)) (t : Nat) : AV := (env.lookup t).getD .undef
def del {α : Type} (d : Nat) : List (Nat × α) → List (Nat × α)
  | [] => []
  | (t, v) :: l => bif t == d then del d l else (t, v) :: del d l
def clr (d : Nat) (env : List (Nat × AV)) : List (Nat × AV) := env.map fun p => (p.1, bif isL d p.2 then .undef else p.2)

def putE (env : List (Nat × AV)) (dst : Option Nat) (v : AV) : List (Nat × AV) :=
  match dst with
  | some d => (d, v) :: del d env
  | none => env

def putL (lo : List (Nat × List AV)) : Option (Nat × List AV) → List (Nat × List AV)
  | some (d, cs) => (d, cs) :: del d lo
  | none => lo

def St.app (st : St) (dst : Option Nat) (e : Eff) : St :=
  { env := putE (match e.v with | .lptr d 0 => (match dst with | some d' => bif d == d' then clr d st.env else st.env | none => st.env) | _ => st.env) dst e.v
    lo := putL st.lo e.lo, hp := e.hp.getD st.hp, n0 := st.n0, cl := st.cl && e.cl }

def constAV : Value → Option AV
  | .bool b => some (.bool b)
  | .int k n => some (.int k n)
  | .string s => some (.str s)
  | .pointer none => some .nilptr
  | .slice none 0 0 => some .nilsl
  | _ => none

def opd (env : List (Nat × AV)) : Operand → Option AV
  | .tmp t => some (get env t)
  | .const v => constAV v
  | .func f => some (.fn f [])
  | .global _ => none

def opds (env : List (Nat × AV)) : List (Nat × Operand) → Option (List (Nat × AV))
  | [] => some []
  | (i, x) :: l => match opd env x, opds env l with
    | some v, some vs => some ((i, v) :: vs)
    | _, _ => none

def args (env : List (Nat × AV)) : List Operand → Option (List AV)
  | [] => some []
  | x :: l => match opd env x, args env l with
    | some v, some vs => some (v :: vs)
    | _, _ => none

def optI (env : List (Nat × AV)) : Option Operand → Option (Option Int)
  | none => some none
  | some x => match opd env x with
    | some (.int _ n) => some (some n)
    | _ => none

/-- a block whose rows are as many as they were when the pointer or slice was told -/
def fresh (hp : List Blk) (k t : Nat) : Option Blk :=
  match hp[k]? with
  | some b => bif t == b.rows.length then some b else none
  | none => none

/-- the row that a pointer points into, and the cell -/
def rowAt (lo : List (Nat × List AV)) (hp : List Blk) : AV → Option (List AV × Nat)
  | .lptr d c => (lo.lookup d).map fun r => (r, c)
  | .vp r c => some (r, c)
  | .ptr k r c t => (fresh hp k t).bind fun b => (b.rows[r]?).map fun x => (x, c)
  | _ => none

def splice (row : List AV) (c : Nat) (cs : List AV) : List AV :=
  if c = 0 ∧ cs.length = row.length then cs else row.take c ++ (cs ++ row.drop (c + cs.length))

def partOf (ti : TI) (cs : List AV) (off : Nat) : Option AV :=
  bif agg? ti.d then (if off + ti.size ≤ cs.length then some (.agg ((cs.drop off).take ti.size)) else none)
  else cs[off]?

def most : Nat := 4294967296

def bytesOf : List (List AV) → Option (List UInt8)
  | [] => some []
  | [.int .u8 n] :: l => (bytesOf l).map (UInt8.ofNat n.toNat :: ·)
  | _ => none

def eqCells : List LK → List AV → List AV → Option Bool
  | [], [], [] => some true
  | .int :: ls, .int k a :: xs, .int k' b :: ys => if k = k' then (eqCells ls xs ys).map (decide (a = b) && ·) else none
  | .bool :: ls, .bool a :: xs, .bool b :: ys => (eqCells ls xs ys).map ((a == b) && ·)
  | .str :: ls, .str a :: xs, .str b :: ys => (eqCells ls xs ys).map ((a.toList == b.toList) && ·)
  | _, _, _ => none

def bytesLt : List UInt8 → List UInt8 → Bool
  | _, [] => false
  | [], _ :: _ => true
  | a :: x, b :: y => a < b || (a == b && bytesLt x y)

def binI (op : BinOp) (k : IntKind) (x y : Int) : Option AV :=
  match op with
  | .add => some (.int k (k.wrap (x + y)))
  | .sub => some (.int k (k.wrap (x - y)))
  | .mul => some (.int k (k.wrap (x * y)))
  | .quo => if y = 0 then none else some (.int k (k.wrap (x.tdiv y)))
  | .rem => if y = 0 then none else some (.int k (x.tmod y))
  | .and => some (.int k (k.wrap ((BitVec.ofInt k.bits x) &&& (BitVec.ofInt k.bits y)).toNat))
  | .or => some (.int k (k.wrap ((BitVec.ofInt k.bits x) ||| (BitVec.ofInt k.bits y)).toNat))
  | .xor => some (.int k (k.wrap ((BitVec.ofInt k.bits x) ^^^ (BitVec.ofInt k.bits y)).toNat))
  | .andNot => some (.int k (k.wrap ((BitVec.ofInt k.bits x) &&& ~~~(BitVec.ofInt k.bits y)).toNat))
  | .eql => some (.bool (decide (x = y)))
  | .neq => some (.bool (!decide (x = y)))
  | .lss => some (.bool (decide (x < y)))
  | .leq => some (.bool (decide (x ≤ y)))
  | .gtr => some (.bool (decide (y < x)))
  | .geq => some (.bool (decide (y ≤ x)))
  | _ => none

def binS (op : BinOp) (x y : ByteArray) : Option AV :=
  match op with
  | .add => if x.size + y.size ≤ most then some (.str (x ++ y)) else none
  | .eql => some (.bool (x.toList == y.toList))
  | .neq => some (.bool (!(x.toList == y.toList)))
  | .lss => some (.bool (bytesLt x.toList y.toList))
  | .leq => some (.bool (bytesLt x.toList y.toList || x.toList == y.toList))
  | .gtr => some (.bool (!(bytesLt x.toList y.toList || x.toList == y.toList)))
  | .geq => some (.bool (!bytesLt x.toList y.toList))
  | _ => none

def binA (leaf : Option (List LK)) (op : BinOp) (x y : AV) : Option AV :=
  match x, y with
  | .int k a, .int k' b =>
    match op with
    | .shl => if b < 0 then none else some (.int k (k.wrap (a * 2 ^ (min b.toNat k.bits))))
    | .shr => if b < 0 then none else some (.int k (a.fdiv (2 ^ (min b.toNat k.bits))))
    | op => if k = k' then binI op k a b else none
  | .str a, .str b => binS op a b
  | .agg a, .agg b => match op with
    | .eql => leaf.bind fun ls => (eqCells ls a b).map .bool
    | .neq => leaf.bind fun ls => (eqCells ls a b).map fun r => .bool (!r)
    | _ => none
  | _, _ => none

/-- the same, and two booleans held together -/
def binT (ti : Option TI) (op : BinOp) (x y : AV) : Option AV :=
  match x, y with
  | .bool a, .bool b => ti.bind fun t => match t.d, op with
    | .bool, .eql => some (.bool (a == b))
    | .bool, .neq => some (.bool (!(a == b)))
    | _, _ => none
  | x, y => binA (ti.bind (·.leaf)) op x y

def unA (op : UnOp) (x : AV) : Option AV :=
  match op, x with
  | .neg, .int k n => some (.int k (k.wrap (0 - n)))
  | .not, .bool b => some (.bool !b)
  | _, _ => none

def pickA (c a b : AV) : Option AV :=
  match c, a, b with
  | .bool t, .bool x, .bool y => some (.bool (bif t then x else y))
  | .bool t, x, y => some (if t then x else y)
  | _, _, _ => none

def foldI (f : Int → Int → Int) : IntKind → Int → List AV → Option AV
  | k, n, [] => some (.int k n)
  | k, n, .int _ m :: l => foldI f k (f n m) l
  | _, _, _ => none

def allNoL : List AV → Bool
  | [] => true
  | v :: l => v.noL && allNoL l

/-- the parts of a built value, one behind the other and none left out -/
def packed : List (Nat × Nat) → List (Nat × AV) → Nat → Nat → Option (List (List AV))
  | [], [], _, _ => some []
  | (off, s) :: pl, (j, v) :: ps, i, at_ => if off = at_ ∧ j = i ∧ v.noL = true ∧ v.cells.length = s then (packed pl ps (i + 1) (at_ + s)).map (v.cells :: ·) else none
  | _, _, _, _ => none

def evenly (n s : Nat) : List (Nat × Nat) := (List.range n).map fun i => (i * s, s)

def filled (place : Nat → Option (Nat × Nat)) : List (Nat × AV) → List AV → Option (List AV)
  | [], cs => some cs
  | (j, v) :: ps, cs =>
    match place j with
    | some (off, s) => if v.noL = true ∧ v.cells.length = s ∧ off + s ≤ cs.length then filled place ps (splice cs off v.cells) else none
    | none => none

/-- what a call gives, the heap, and below which block all was left as it was -/
abbrev Rec := Nat → List AV → List Blk → Option (AV × List Blk × Nat)

section
variable (T : Nat → Option TI)

def sizeT (ty : Nat) : Option Nat := (T ty).map (·.size)

def placesT : List (Nat × Nat) → Option (List (Nat × Nat))
  | [] => some []
  | (off, ty) :: fs => match sizeT T ty, placesT fs with
    | some s, some ss => some ((off, s) :: ss)
    | _, _ => none

/-- a slice type's element type -/
def elemT (ty : Nat) : Option (Nat × TI) :=
  match T ty with
  | some ti => match ti.d with
    | .slice e => (T e).map fun te => (e, te)
    | _ => none
  | none => none

/-- an array type's length and element type -/
def arrT (ty : Nat) : Option (Nat × TI) :=
  match T ty with
  | some ti => match ti.d with
    | .array n e => (T e).map fun te => (n, te)
    | _ => none
  | none => none

/-- a struct type's field: where it begins, and its type -/
def fieldT (ty f : Nat) : Option (Nat × TI) :=
  match T ty with
  | some ti => match ti.d with
    | .struct fs => match fs[f]? with
      | some (off, ft) => (T ft).map fun tf => (off, tf)
      | none => none
    | _ => none
  | none => none

/-- may a value of this type be appended from? -/
def isSrc (ty : Nat) : Bool :=
  match T ty with
  | some ti => match ti.d with
    | .slice _ | .str => true
    | _ => false
  | none => false

def isInt (ty : Nat) : Bool :=
  match T ty with
  | some ti => match ti.d with
    | .int _ => true
    | _ => false
  | none => false

def loadA (lo : List (Nat × List AV)) (hp : List Blk) (ty : Nat) (p : AV) : Option AV :=
  (rowAt lo hp p).bind fun (row, c) => (T ty).bind fun ti => partOf ti row c

def storeRow (v : AV) (row : List AV) (c : Nat) : List AV :=
  match v with
  | .agg cs => splice row c cs
  | x => row.set c x

def storeA (lo : List (Nat × List AV)) (hp : List Blk) (n0 : Nat) (ty : Nat) (p v : AV) : Option Eff :=
  match T ty with
  | some ti =>
    if v.noL = true ∧ v.cells.length = ti.size then
      match p with
      | .lptr d c =>
        match lo.lookup d with
        | some row => if c + ti.size ≤ row.length then some { lo := some (d, storeRow v row c) } else none
        | none => none
      | .ptr k r c t =>
        match fresh hp k t with
        | some b =>
          match b.rows[r]? with
          | some row => if c + ti.size ≤ row.length then some { hp := some (hp.set k { b with rows := b.rows.set r (storeRow v row c) }), cl := decide (n0 ≤ k) } else none
          | none => none
        | none => none
      | _ => none
    else none
  | none => none

/-- a new variable -/
def varA (esc : Bool) (hp : List Blk) (dst : Option Nat) (ty : Nat) (cs : List AV) : Option Eff :=
  match dst with
  | some d =>
    bif esc then (if 0 < cs.length then some { v := .ptr hp.length 0 0 1, hp := some (hp ++ [⟨ty, cs.length, [cs]⟩]) } else none)
    else some { v := .lptr d 0, lo := some (d, cs) }
  | none => none

def fillA (pl : List (Nat × Nat)) (parts : List (Nat × AV)) (zero : List AV) : Option (List AV) :=
  match parts with
  | [] => some zero
  | _ => match packed pl parts 0 0 with
    | some l => if l.flatten.length = zero.length then some l.flatten else none
    | none => filled (fun i => pl[i]?) parts zero

def buildA (ty : Nat) (parts : List (Nat × AV)) : Option (List AV) :=
  match T ty with
  | some ti =>
    match ti.d with
    | .struct fs => (placesT T fs).bind fun pl => fillA pl parts ti.zero
    | .array n e => (sizeT T e).bind fun s => if n ≤ 64 then fillA (evenly n s) parts ti.zero else none
    | _ => none
  | none => none

/-- the rows, of so many cells each, of a slice's elements, or a string's bytes -/
def rowsA (hp : List Blk) (size : Nat) : AV → Option (List (List AV))
  | .nilsl | .esl => some []
  | .vs sz rows => if sz = size then some rows else none
  | .vf sz n f => if sz = size then some ((List.range n).map f) else none
  | .vi k sz n q => if sz = size then some ((List.range n).map fun i => cellsI k sz (q i)) else none
  | .sl k r n t => (fresh hp k t).bind fun b => if b.sz = size ∧ r + n ≤ b.rows.length then some ((b.rows.drop r).take n) else none
  | .str s => if size = 1 then some (s.data.toList.map fun b => [.int .u8 b.toNat]) else none
  | _ => none

def appendA (hp : List Blk) (n0 : Nat) (e : Nat) (te : TI) (s : AV) (new : List (List AV)) : Option Eff :=
  match s with
  | .nilsl | .esl =>
    match new with
    | [] => some { v := s }
    | _ => if new.length ≤ most then some { v := .sl hp.length 0 new.length new.length, hp := some (hp ++ [⟨e, te.size, new⟩]) } else none
  | .sl k 0 n t =>
    match fresh hp k t with
    | some b =>
      if b.e = e ∧ b.sz = te.size ∧ n + new.length ≤ most then
        if n = t then some { v := .sl k 0 (n + new.length) (t + new.length), hp := some (hp.set k { b with rows := b.rows ++ new }), cl := decide (n0 ≤ k) }
        else if n + new.length ≤ t then some { v := .sl k 0 (n + new.length) t, hp := some (hp.set k { b with rows := b.rows.take n ++ (new ++ b.rows.drop (n + new.length)) }), cl := decide (n0 ≤ k) }
        else none
      else none
    | none => none
  | _ => none

def isStr (ty : Nat) : Bool :=
  match T ty with
  | some ti => match ti.d with
    | .str => true
    | _ => false
  | none => false

/-- the bounds of a cut: where it begins, where it ends -/
def cut (n : Nat) (lo hi : Option Int) : Option (Nat × Nat) :=
  if 0 ≤ lo.getD 0 ∧ lo.getD 0 ≤ hi.getD n ∧ hi.getD n ≤ n then some ((lo.getD 0).toNat, (hi.getD n).toNat) else none

def sliceA (hp : List Blk) (ty : Nat) (x : AV) (lo hi mx : Option Int) : Option AV :=
  match mx with
  | none =>
    match x with
    | .str s => bif isStr T ty then (cut s.size lo hi).map fun (l, h) => .str (s.extract l h) else none
    | .nilsl => (elemT T ty).bind fun _ => (cut 0 lo hi).map fun _ => .nilsl
    | .esl => (elemT T ty).bind fun _ => (cut 0 lo hi).map fun _ => .esl
    | .sl k r n t => (elemT T ty).bind fun (_, te) => (fresh hp k t).bind fun b => if te.size = b.sz ∧ r + n ≤ b.rows.length then (cut n lo hi).map fun (l, h) => .sl k (r + l) (h - l) t else none
    | .vs sz rows => (elemT T ty).bind fun (_, te) => if te.size = sz then (cut rows.length lo hi).map fun (l, h) => .vs sz ((rows.drop l).take (h - l)) else none
    | .vf sz n f => (elemT T ty).bind fun (_, te) => if te.size = sz then (cut n lo hi).map fun (l, h) => .vf sz (h - l) (fun i => f (l + i)) else none
    | .vi k sz n q => (elemT T ty).bind fun (_, te) => if te.size = sz then (cut n lo hi).map fun (l, h) => .vi k sz (h - l) (shiftF l q) else none
    | .ptr k r c t => (arrT T ty).bind fun (n, te) => (fresh hp k t).bind fun b =>
        if te.size = 1 ∧ r < b.rows.length ∧ c + n ≤ b.sz then (cut n lo hi).map fun (l, h) => .ssl k r (c + l) (h - l) t else none
    | _ => none
  | some m =>
    -- s[0:0:0] alone
    if m = 0 ∧ lo.getD 0 = 0 ∧ hi = some 0 then
      match x with
      | .nilsl => (elemT T ty).map fun _ => .nilsl
      | .esl => (elemT T ty).map fun _ => .esl
      | .sl k _ _ t => (elemT T ty).bind fun _ => (fresh hp k t).map fun _ => .esl
      | .vf _ _ _ => (elemT T ty).map fun _ => .esl
      | .vi _ _ _ _ => (elemT T ty).map fun _ => .esl
      | _ => none
    else none

def lenA (hp : List Blk) (ty : Nat) (x : AV) : Option AV :=
  match x with
  | .str s => bif isStr T ty then some (.int .i64 s.size) else none
  | .nilsl | .esl => (elemT T ty).map fun _ => .int .i64 0
  | .vs _ rows => (elemT T ty).map fun _ => .int .i64 rows.length
  | .vf _ n _ => (elemT T ty).map fun _ => .int .i64 n
  | .vi _ _ n _ => (elemT T ty).map fun _ => .int .i64 n
  | .vm n _ _ => (elemT T ty).map fun _ => .int .i64 n
  | .sl k _ n t => (elemT T ty).bind fun _ => (fresh hp k t).map fun _ => .int .i64 n
  | .ssl k _ _ n t => (elemT T ty).bind fun _ => (fresh hp k t).map fun _ => .int .i64 n
  | _ => (arrT T ty).map fun (n, _) => .int .i64 n

def indexAddrA (hp : List Blk) (ty : Nat) (x i : AV) : Option AV :=
  match i with
  | .int _ i =>
    match x with
    | .sl k r n t => (fresh hp k t).bind fun b => (elemT T ty).bind fun (_, te) => if te.size = b.sz ∧ 0 ≤ i ∧ i < n ∧ r + n ≤ b.rows.length then some (.ptr k (r + i.toNat) 0 t) else none
    | .ssl k r c n t => (fresh hp k t).bind fun _ => (elemT T ty).bind fun (_, te) => if te.size = 1 ∧ 0 ≤ i ∧ i < n then some (.ptr k r (c + i.toNat) t) else none
    | .vs sz rows => (elemT T ty).bind fun (_, te) => if te.size = sz ∧ 0 ≤ i then (rows[i.toNat]?).map fun row => .vp row 0 else none
    | .vf sz n f => (elemT T ty).bind fun (_, te) => if te.size = sz ∧ 0 ≤ i ∧ i < n then some (.vp (f i.toNat) 0) else none
    | .vi k sz n q => (elemT T ty).bind fun (_, te) => if te.size = sz ∧ 0 ≤ i ∧ i < n then some (.vp (cellsI k sz (q i.toNat)) 0) else none
    | .vm n m q => (elemT T ty).bind fun (_, te) => if te.size = 1 ∧ 0 ≤ i ∧ i < n then some (.vp [.vi .i64 1 (m i.toNat) fun j _ => q i.toNat j] 0) else none
    | .lptr d c => (arrT T ty).bind fun (n, te) => if 0 ≤ i ∧ i < n then some (.lptr d (c + i.toNat * te.size)) else none
    | .vp r c => (arrT T ty).bind fun (n, te) => if 0 ≤ i ∧ i < n then some (.vp r (c + i.toNat * te.size)) else none
    | .ptr k r c t => (fresh hp k t).bind fun _ => (arrT T ty).bind fun (n, te) => if 0 ≤ i ∧ i < n then some (.ptr k r (c + i.toNat * te.size) t) else none
    | _ => none
  | _ => none

def indexA (ty : Nat) (x i : AV) : Option AV :=
  match i with
  | .int _ i =>
    match x with
    | .str s => bif isStr T ty then if 0 ≤ i then (s.data[i.toNat]?).map fun b => .int .u8 b.toNat else none else none
    | .agg cs => (arrT T ty).bind fun (n, te) => if 0 ≤ i ∧ i < n then partOf te cs (i.toNat * te.size) else none
    | _ => none
  | _ => none

def fieldA (ty : Nat) (x : AV) (f : Nat) : Option AV :=
  match x with
  | .agg cs => (fieldT T ty f).bind fun (off, tf) => partOf tf cs off
  | _ => none

def fieldAddrA (hp : List Blk) (ty : Nat) (p : AV) (f : Nat) : Option AV :=
  (fieldT T ty f).bind fun (off, tf) =>
   if tf.size = 0 then none else
    match p with
    | .lptr d c => some (.lptr d (c + off))
    | .vp r c => some (.vp r (c + off))
    | .ptr k r c t => (fresh hp k t).map fun _ => .ptr k r (c + off) t
    | _ => none

def isBytes (ty : Nat) : Bool :=
  match elemT T ty with
  | some (_, te) => match te.d with
    | .int .u8 => true
    | _ => false
  | none => false

def convA (hp : List Blk) (src dst : Nat) (x : AV) : Option AV :=
  (T src).bind fun _ => (T dst).bind fun ti =>
    match ti.d with
    | .int k => (match x with
      | .int _ n => some (.int k (k.wrap n))
      | _ => none)
    | .str => (match x with
      | .str s => some (.str s)
      | .sl k r n t => bif isBytes T src then (rowsA hp 1 (.sl k r n t)).bind fun rows => (bytesOf rows).map fun l => .str ⟨l.toArray⟩ else none
      | _ => none)
    | _ => none

def clearA (hp : List Blk) (n0 : Nat) (zero : List AV) (x : AV) : Option Eff :=
  match x with
  | .nilsl | .esl => some { v := .tup [] }
  | .sl k r n t => (fresh hp k t).bind fun b =>
      if r + n ≤ b.rows.length ∧ zero.length = b.sz then some { v := .tup [], hp := some (hp.set k { b with rows := b.rows.take r ++ (List.replicate n zero ++ b.rows.drop (r + n)) }), cl := decide (n0 ≤ k) } else none
  | _ => none

def callA (rec : Rec) (hp : List Blk) (n0 f : Nat) (vs : List AV) : Option Eff :=
  bif allNoL vs then (rec f vs hp).map fun (v, hp, c) => { v, hp := some hp, cl := decide (n0 ≤ c), low := c } else none

def val (v : Option AV) : Option Eff := v.map fun v => { v }

def builtinA (st : St) (b : Builtin) (tys : List Nat) (vs : List AV) : Option Eff :=
  match b, tys, vs with
  | .len, ty :: _, x :: _ => val (lenA T st.hp ty x)
  | .cap, ty :: _, .nilsl :: _ => (elemT T ty).map fun _ => { v := .int .i64 0 }
  | .append, [ty, ty2], [s, x] =>
    (elemT T ty).bind fun (e, te) =>
      if te.bytes ≤ 1024 ∧ 0 < te.size then
        bif isInt T ty2 then
          (match x with
           | .int .i64 n => if 0 ≤ n ∧ n ≤ most then appendA st.hp st.n0 e te s (List.replicate n.toNat te.zero) else none
           | _ => none)
        else bif isSrc T ty2 then (rowsA st.hp te.size x).bind fun new => appendA st.hp st.n0 e te s new else none
      else none
  | .clear, [ty], [x] => (elemT T ty).bind fun (_, te) => clearA st.hp st.n0 te.zero x
  | .max, _, .int k n :: l => val (foldI (fun x y => if y > x then y else x) k n l)
  | .min, _, .int k n :: l => val (foldI (fun x y => if y < x then y else x) k n l)
  | _, _, _ => none

def eff (rec : Rec) (cfg : Cfg) (o : Oper) (st : St) : Option Eff :=
  match o.op with
  | .move x | .assign x => val (opd st.env x)
  | .pick c a b => (opd st.env c).bind fun c => (opd st.env a).bind fun a => (opd st.env b).bind fun b => val (pickA c a b)
  | .alloc e => (T e).bind fun ti => varA (cfg.esc.contains (o.dst.getD 0)) st.hp o.dst e ti.zero
  | .box e x => (T e).bind fun ti => (opd st.env x).bind fun v =>
      if v.noL = true ∧ v.cells.length = ti.size then varA (cfg.esc.contains (o.dst.getD 0)) st.hp o.dst e v.cells else none
  | .build ty parts => (opds st.env parts.toList).bind fun ps => val ((buildA T ty ps).map .agg)
  | .buildSlice ty len parts => (elemT T ty).bind fun (e, te) => (opds st.env parts.toList).bind fun ps =>
      if 0 < te.size ∧ len ≤ 1024 ∧ te.size ≤ 1024 then
        (packed (evenly len te.size) ps 0 0).bind fun rows =>
          bif cfg.virt.contains (o.dst.getD 0) then some { v := .vs te.size rows }
          else some { v := .sl st.hp.length 0 len len, hp := some (st.hp ++ [⟨e, te.size, rows⟩]) }
      else none
  | .load ty p => (opd st.env p).bind fun p => val (loadA T st.lo st.hp ty p)
  | .store ty p x => (opd st.env p).bind fun p => (opd st.env x).bind fun v => storeA T st.lo st.hp st.n0 ty p v
  | .nilCheck x => (opd st.env x).bind fun
    | .lptr d c => some { v := .lptr d c }
    | .vp r c => some { v := .vp r c }
    | .ptr k r c t => (fresh st.hp k t).map fun _ => { v := .ptr k r c t }
    | .fn f caps => some { v := .fn f caps }
    | _ => none
  | .binOp op ty x y _ => (opd st.env x).bind fun a => (opd st.env y).bind fun b => val (binT (T ty) op a b)
  | .unOp op _ x => (opd st.env x).bind fun a => val (unA op a)
  | .convert src dst x => (opd st.env x).bind fun a => val (convA T st.hp src dst a)
  | .makeFunc fn first captured => match fn with
    | .func f => if first.size = 0 then (args st.env captured.toList).bind fun vs => bif allNoL vs then some { v := .fn f vs } else none else none
    | _ => none
  | .makeSlice ty l c => (elemT T ty).bind fun (e, te) => (opd st.env l).bind fun l => (opd st.env c).bind fun c =>
      match l, c with
      | .int .i64 n, .int .i64 m =>
        if 0 < te.size ∧ te.bytes ≤ 1024 ∧ 0 ≤ n ∧ n = m ∧ n ≤ most then
          some { v := .sl st.hp.length 0 n.toNat n.toNat, hp := some (st.hp ++ [⟨e, te.size, List.replicate n.toNat te.zero⟩]) }
        else none
      | _, _ => none
  | .slice ty x lo hi mx => (opd st.env x).bind fun v => (optI st.env lo).bind fun lo => (optI st.env hi).bind fun hi => (optI st.env mx).bind fun mx => val (sliceA T st.hp ty v lo hi mx)
  | .fieldAddr s x f => (opd st.env x).bind fun p => val (fieldAddrA T st.hp s p f)
  | .field s x f => (opd st.env x).bind fun v => val (fieldA T s v f)
  | .indexAddr ty x i => (opd st.env x).bind fun v => (opd st.env i).bind fun i => val (indexAddrA T st.hp ty v i)
  | .index ty x i => (opd st.env x).bind fun v => (opd st.env i).bind fun i => val (indexA T ty v i)
  | .extract x i => (opd st.env x).bind fun
    | .tup vs => val (vs[i]?)
    | _ => none
  | .call c => (args st.env c.args.toList).bind fun vs =>
      match c.callee with
      | .value (.func f) => callA rec st.hp st.n0 f vs
      | .value x => (opd st.env x).bind fun
        | .fn f caps => callA rec st.hp st.n0 f (vs ++ caps)
        | _ => none
      | .builtin b => builtinA T st b c.argTypes.toList vs
      | _ => none
  | _ => none

def guardA (ops : Array Oper) (o : Oper) (st : St) : Option Bool :=
  match o.guard with
  | none => some true
  | some (j, want) => ((ops[j]?).bind (·.dst)).bind fun d => match get st.env d with
    | .bool b => some (b == want)
    | .tup [] => some false
    | _ => none

/-- one operation in its place -/
def stepA (rec : Rec) (cfg : Cfg) (ops : Array Oper) (o : Oper) (st : St) : Option St :=
  (guardA ops o st).bind fun g => bif g then (eff T rec cfg o st).map fun e => st.app o.dst e else some { st with env := putE st.env o.dst (.tup []) }

def runOps (rec : Rec) (cfg : Cfg) (ops : Array Oper) : List Oper → St → Option St
  | [], st => some st
  | o :: l, st => (stepA T rec cfg ops o st).bind fun st => runOps rec cfg ops l st

end
end Go.Proofs.Ytjdciikfbinchaa.Abs
