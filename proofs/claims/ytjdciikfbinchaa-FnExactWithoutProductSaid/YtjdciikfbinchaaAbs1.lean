/- The abstract machine: regions in their order, code, functions. Definitions. -/
import Derived.Test.YtjdciikfbinchaaAbs0
import GoSem.Core.Region
import GoSem.Core.Layout
namespace Go.Proofs.Ytjdciikfbinchaa.Abs
open Go

/-! ### types, off the program -/
def zeroCells : List Value → Option (List AV)
  | [] => some []
  | v :: l => match constAV v, zeroCells l with
    | some x, some xs => some (x :: xs)
    | _, _ => none

def tyOf (P : Program) (t : Nat) : Ty :=
  match P.underlying t with
  | some .bool => .bool
  | some (.int k) => .int k
  | some .string => .str
  | some (.slice e) => .slice e
  | some (.array n e) => .array n e
  | some (.struct fs) => .struct (fs.toList.map fun f => (f.offset, f.type))
  | _ => .other

/-- the kinds of the cells of the fields, where they lie one behind the other -/
def leavesF (P : Program) (g : Nat → Option (List LK)) : List Field → Nat → Option (List LK)
  | [], _ => some []
  | f :: fs, at_ =>
    match g f.type, P.info? f.type with
    | some l, some i => if f.offset = at_ ∧ f.name ≠ "_" ∧ i.size = l.length then (leavesF P g fs (at_ + l.length)).map (l ++ ·) else none
    | _, _ => none

def leavesT (P : Program) : Nat → Nat → Option (List LK)
  | 0, _ => none
  | d + 1, t =>
    match P.underlying t with
    | some (.int _) => some [.int]
    | some .bool => some [.bool]
    | some .string => some [.str]
    | some (.array n e) => match leavesT P d e, P.info? e with
      | some l, some i => if i.size = l.length then some (List.replicate n l).flatten else none
      | _, _ => none
    | some (.struct fs) => if P.stoodInHeld t = true then none else leavesF P (leavesT P d) fs.toList 0
    | _ => none

def tiOf (P : Program) (t : Nat) : Option TI :=
  match P.info? t with
  | some i => match i.zero with
    | some z => match zeroCells z.cells.toList with
      | some zs => if zs.length = i.size ∧ (P.underlying t).isSome = true then some { d := tyOf P t, size := i.size, bytes := i.bytes, zero := zs, leaf := if agg? (tyOf P t) = true then leavesT P 6 t else none } else none
      | none => none
    | none => none
  | none => none

/-! ### order -/
/-- a slot's variable; a heap block; the heap blocks from the n-th on -/
inductive Loc where
  | lo (d : Nat)
  | hp (k : Nat)
  | ge (n : Nat)
  deriving DecidableEq

structure Foot where
  act : Bool := false
  rd : List Loc := []
  wr : List Loc := []

def locL : AV → List Loc
  | .lptr d _ => [.lo d]
  | _ => []
def locH : AV → List Loc
  | .ptr k _ _ _ | .sl k _ _ _ | .ssl k _ _ _ _ => [.hp k]
  | _ => []

def tmpVs (env : List (Nat × AV)) : List Operand → List AV
  | [] => []
  | .tmp t :: l => get env t :: tmpVs env l
  | _ :: l => tmpVs env l

def callFn (c : Call) : Bool := match c.callee with
  | .builtin _ => false
  | _ => true

/-- the operands behind which heap blocks are looked at -/
def looksH (o : Op) : List Operand :=
  match o with
  | .load _ p | .store _ p _ | .nilCheck p | .convert _ _ p | .slice _ p _ _ _ | .fieldAddr _ p _ | .indexAddr _ p _ => [p]
  | .call c => c.args.toList
  | _ => []

/-- the operands behind which heap blocks may be written -/
def writesH (o : Op) : List Operand :=
  match o with
  | .store _ p _ => [p]
  | .call c => c.args.toList.take 1
  | _ => []

def isCallFn (o : Op) : Bool := match o with
  | .call c => callFn c
  | _ => false

def dstL (env : List (Nat × AV)) : Option Nat → List Loc
  | some d => locL (get env d)
  | none => []

def foot (o : Oper) (st : St) (e : Eff) : Foot :=
  { act := e.hp.isSome
    rd := (tmpVs st.env o.op.operands.toList).flatMap locL ++ locL e.v ++ dstL st.env o.dst ++ (tmpVs st.env (looksH o.op)).flatMap locH ++ (bif isCallFn o.op then [.ge 0] else [])
    wr := (match e.lo with | some (d, _) => [.lo d] | none => []) ++ (match e.v, o.dst with | .lptr d _, some d' => bif d == d' then [.lo d] else [] | _, _ => []) ++
      (bif e.hp.isSome then (bif isCallFn o.op then [.ge e.low] else .ge st.hp.length :: (tmpVs st.env (writesH o.op)).flatMap locH) else []) }

/-- where the guard bars it: the slot is set alone -/
def footNo (o : Oper) (st : St) : Foot := { rd := dstL st.env o.dst }

def Loc.meets : Loc → Loc → Bool
  | .lo a, .lo b => a == b
  | .hp a, .hp b => a == b
  | .ge n, .hp a | .hp a, .ge n => decide (n ≤ a)
  | .ge _, .ge _ => true
  | _, _ => false

def meets (x y : List Loc) : Bool := x.any fun a => y.any fun b => a.meets b

/-- two operations of which either may come first -/
def Foot.clash (x y : Foot) : Bool := (x.act && y.act) || meets x.wr y.rd || meets x.wr y.wr || meets x.rd y.wr

/-- the operations behind which operation i comes, in every order -/
def predsOf (pre : List (List Nat)) (o : Oper) : List Nat :=
  (o.after.toList.filter (Region.binds .any ·)).flatMap fun e => e.on :: pre.getD e.on []

def preds : List Oper → List (List Nat) → List (List Nat)
  | [], pre => pre
  | o :: l, pre => preds l (pre ++ [predsOf pre o])

def looks (ops : Array Oper) (o : Oper) : List Nat :=
  (o.op.operands.toList.filterMap fun | .tmp t => some t | _ => none) ++
  (match o.guard with
   | some (g, _) => ((ops[g]?).bind (·.dst)).toList
   | none => [])

def slotsOk (ops : Array Oper) (x y : Oper) : Bool :=
  (match x.dst with
   | some d => !(looks ops y).contains d && y.dst != some d
   | none => true) &&
  (match y.dst with
   | some d => !(looks ops x).contains d
   | none => true)

/-- the pairs (i, j), i < j, of which either may come first -/
def free (ops : Array Oper) : List (Nat × Nat) :=
  let pre := preds ops.toList []
  (List.range ops.size).flatMap fun j => ((List.range j).filter fun i => !(pre.getD j []).contains i).map fun i => (i, j)

def backward : List Oper → Nat → Bool
  | [], _ => true
  | o :: l, n => o.after.toList.all (fun e => !Region.binds .any e || decide (e.on < n)) && backward l (n + 1)

def orderOk (ops : Array Oper) : Bool :=
  backward ops.toList 0 && (free ops).all fun (i, j) => match ops[i]?, ops[j]? with
    | some x, some y => slotsOk ops x y
    | _, _ => false

def feetOk (ops : Array Oper) (feet : List Foot) : Bool :=
  (free ops).all fun (i, j) => match feet[i]?, feet[j]? with
    | some x, some y => !x.clash y
    | _, _ => false

def noStale (dst : Option Nat) (e : Eff) (env : List (Nat × AV)) : Bool :=
  match e.v, dst with
  | .lptr d 0, some d' => bif d == d' then env.all (fun p => p.1 == d || !isL d (get env p.1)) else true
  | _, _ => true

section
variable (T : Nat → Option TI)

def stepD (rec : Rec) (cfg : Cfg) (ops : Array Oper) (o : Oper) (st : St) : Option (St × Foot) :=
  (guardA ops o st).bind fun g => bif g then (eff T rec cfg o st).bind fun e => bif noStale o.dst e st.env then some (st.app o.dst e, foot o st e) else none
    else some ({ st with env := putE st.env o.dst (.tup []) }, footNo o st)

def runD (rec : Rec) (cfg : Cfg) (ops : Array Oper) : List Oper → St → Option (St × List Foot)
  | [], st => some (st, [])
  | o :: l, st => (stepD T rec cfg ops o st).bind fun (st, f) => (runD rec cfg ops l st).map fun (st, fs) => (st, f :: fs)

def region (rec : Rec) (cfg : Cfg) (ops : Array Oper) (draw : Bool) (st : St) : Option St :=
  bif draw then bif orderOk ops then (runD T rec cfg ops ops.toList st).bind fun (st, fs) => bif feetOk ops fs then some st else none else none
  else runOps T rec cfg ops ops.toList st

/-! ### code -/
inductive Ex where
  | normal
  | exit (id : Nat)
  | ret
  deriving Inhabited, DecidableEq

def firstRegion : Code → Option Nat
  | .region id _ _ => some id
  | .seq a b => match firstRegion a with
    | some i => some i
    | none => firstRegion b
  | .block _ c | .loop c => firstRegion c
  | .cond _ a b => match firstRegion a with
    | some i => some i
    | none => firstRegion b
  | _ => none

def pickE (env : List (Nat × AV)) : List Nat → List (Nat × AV)
  | [] => []
  | t :: l => match env.lookup t with
    | some v => (t, v) :: pickE env l
    | none => pickE env l
def pickL (lo : List (Nat × List AV)) : List Nat → List (Nat × List AV)
  | [] => []
  | t :: l => match lo.lookup t with
    | some v => (t, v) :: pickL lo l
    | none => pickL lo l

/-- a round begins: what is not kept is forgotten -/
def norm (cfg : Cfg) (c : Code) (st : St) : St :=
  match firstRegion c with
  | some i => match cfg.keep.lookup i with
    | some (ks, ls) => { st with env := pickE st.env ks, lo := pickL st.lo ls }
    | none => st
  | none => st

def loopA (nm : St → St) (body : St → Option (Ex × St)) : Nat → St → Option (Ex × St)
  | 0, _ => none
  | n + 1, st => match body (nm st) with
    | some (.normal, st) => loopA nm body n st
    | r => r

def evalC (n : Nat) (rec : Rec) (cfg : Cfg) : Code → St → Option (Ex × St)
  | .skip, st => some (.normal, st)
  | .region _ ops draw, st => (region T rec cfg ops draw st).map fun st => (.normal, st)
  | .seq a b, st => match evalC n rec cfg a st with
    | some (.normal, st) => evalC n rec cfg b st
    | r => r
  | .cond c a b, st => match opd st.env c with
    | some (.bool t) => if t then evalC n rec cfg a st else evalC n rec cfg b st
    | _ => none
  | .block id c, st => match evalC n rec cfg c st with
    | some (.exit i, st) => if i = id then some (.normal, st) else some (.exit i, st)
    | r => r
  | .loop c, st => loopA (norm cfg c) (evalC n rec cfg c) n st
  | .exit id, st => some (.exit id, st)
  | .ret, st => some (.ret, st)
  | _, _ => none

/-! ### functions -/
def dstsOk (n : Nat) (ops : List Oper) : Bool := ops.all fun o => match o.dst with
  | some d => decide (d < n)
  | none => true

def codeOk (n : Nat) : Code → Bool
  | .region _ ops _ => dstsOk n ops.toList
  | .seq a b | .cond _ a b => codeOk n a && codeOk n b
  | .block _ c | .loop c => codeOk n c
  | _ => true

mutual
/-- the heap blocks that a value names -/
def refs : AV → List Nat
  | .ptr k _ _ _ | .sl k _ _ _ | .ssl k _ _ _ _ => [k]
  | .fn _ caps => refsL caps
  | .agg cs => refsL cs
  | .tup vs => refsL vs
  | .vs _ rows => refsR rows
  | .vp row _ => refsL row
  | _ => []
def refsL : List AV → List Nat
  | [] => []
  | v :: l => refs v ++ refsL l
def refsR : List (List AV) → List Nat
  | [] => []
  | r :: l => refsL r ++ refsR l
end

mutual
def ren (k k' : Nat) : AV → AV
  | .sl j r n t => .sl (if j = k then k' else j) r n t
  | .agg cs => .agg (renL k k' cs)
  | .tup vs => .tup (renL k k' vs)
  | v => v
def renL (k k' : Nat) : List AV → List AV
  | [] => []
  | v :: l => ren k k' v :: renL k k' l
end

def flatTops : List Nat → Option (List Nat)
  | [] => some []
  | _ => none

mutual
/-- the slices that 'ren' comes to: the only names of heap blocks in the value -/
def tops : AV → Option (List Nat)
  | .sl k _ _ _ => some [k]
  | .agg cs => topsL cs
  | .tup vs => topsL vs
  | v => flatTops (refs v)
def topsL : List AV → Option (List Nat)
  | [] => some []
  | v :: l => match tops v, topsL l with
    | some a, some b => some (a ++ b)
    | _, _ => none
end

def zipEnv : List AV → Nat → List (Nat × AV)
  | [], _ => []
  | v :: l, i => (i, v) :: zipEnv l (i + 1)

def resA (st : St) : ResultVar → Option AV
  | .tmp t => some (get st.env t)
  | .cell a t => loadA T st.lo st.hp t (get st.env a)

def resAs (st : St) : List ResultVar → Option (List AV)
  | [] => some []
  | r :: l => match resA T st r, resAs st l with
    | some v, some vs => some (v :: vs)
    | _, _ => none

/-- what is handed back: of the heap, what was there, and what the result names -/
def out (st : St) (r : AV) : AV × List Blk × Nat :=
  bif st.cl then
    match refs r with
    | [] => (r, st.hp.take st.n0, st.n0)
    | _ => match tops r with
      | some [k] =>
        if st.n0 ≤ k then
          match st.hp[k]? with
          | some b => match refsR b.rows with
            | [] => (ren k st.n0 r, st.hp.take st.n0 ++ [b], st.n0)
            | _ => (r, st.hp, st.n0)
          | none => (r, st.hp, st.n0)
        else (r, st.hp.take st.n0, st.n0)
      | _ => (r, st.hp, st.n0)
  else (r, st.hp, 0)

/-- the same, where the heap that was there is handed on as it came -/
def outN (hp0 : List Blk) (st : St) (r : AV) : AV × List Blk × Nat :=
  bif st.cl then
    match refs r with
    | [] => (r, hp0, st.n0)
    | _ => match tops r with
      | some [k] =>
        if st.n0 ≤ k then
          match st.hp[k]? with
          | some b => match refsR b.rows with
            | [] => (ren k st.n0 r, hp0 ++ [b], st.n0)
            | _ => (r, st.hp, st.n0)
          | none => (r, st.hp, st.n0)
        else (r, hp0, st.n0)
      | _ => (r, st.hp, st.n0)
  else (r, st.hp, 0)

def one : List AV → AV
  | [v] => v
  | vs => .tup vs

def finish (fn : Func) (hp0 : List Blk) (st : St) : Option (AV × List Blk × Nat) :=
  (resAs T st fn.results.toList).bind fun vs => bif allNoL vs then some (outN hp0 st (one vs)) else none

def enterA (vs : List AV) (hp : List Blk) : St := { env := zipEnv vs 0, lo := [], hp := hp, n0 := hp.length, cl := true }

end

/-- the settings of all functions, and what is told of calls beforehand -/
structure Cfgs where
  of : Nat → Cfg
  ora : Rec
instance : CoeFun Cfgs fun _ => Nat → Cfg := ⟨Cfgs.of⟩

/-- f called with 'vs', at most n rounds of any loop and n calls deep -/
def evalF (P : Program) (cfg : Cfgs) : Nat → Rec
  | 0, _, _, _ => none
  | n + 1, f, vs, hp =>
    match cfg.ora f vs hp with
    | some y => some y
    | none =>
    match P.funcs[f]? with
    | some fn => match fn.body with
      | some c =>
        bif codeOk (max fn.ntmps vs.length) c then
          match evalC (tiOf P) n (evalF P cfg n) (cfg f) c (enterA vs hp) with
          | some (.normal, st) | some (.ret, st) => finish (tiOf P) fn hp st
          | _ => none
        else none
      | none => none
    | none => none

end Go.Proofs.Ytjdciikfbinchaa.Abs
