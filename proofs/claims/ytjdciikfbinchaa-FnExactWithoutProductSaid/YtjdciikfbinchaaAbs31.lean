/- The abstract machine run with continuations over typed blocks: what is not decided comes to the head. Definitions. -/
import Derived.Test.YtjdciikfbinchaaAbs29
namespace Go.Proofs.Ytjdciikfbinchaa.Abs
open Go

/-! ### values that are one or the other, cell by cell -/
/-- x if c, else y: told by one value of one shape, where that can be done -/
def selV (c : Bool) (x y : AV) : AV :=
  match x, y with
  | .int k a, .int k' b => bif decide (k = k') then .int k (bif c then a else b) else bif c then .int k a else .int k' b
  | .bool a, .bool b => .bool (bif c then a else b)
  | .str a, .str b => .str (bif c then a else b)
  | .sl k r n t, .sl k' r' n' t' => .sl (bif c then k else k') (bif c then r else r') (bif c then n else n') (bif c then t else t')
  | x, y => bif c then x else y
def selL (c : Bool) : List AV → List AV → List AV
  | x :: xs, y :: ys => selV c x y :: selL c xs ys
  | xs, ys => bif c then xs else ys

theorem selV_eq (c : Bool) (x y : AV) : selV c x y = bif c then x else y := by
  unfold selV
  split
  · rename_i k a k' b
    by_cases h : k = k'
    · subst h; cases c <;> simp
    · cases c <;> simp [h]
  · cases c <;> rfl
  · cases c <;> rfl
  · cases c <;> rfl
  · rfl
theorem selL_eq (c : Bool) : ∀ (xs ys : List AV), selL c xs ys = bif c then xs else ys
  | x :: xs, y :: ys => by
    simp only [selL, selV_eq, selL_eq c xs ys]
    cases c <;> rfl
  | [], ys => by unfold selL; rfl
  | x :: xs, [] => by unfold selL; rfl

/-- the i-th of some numbers -/
def nthI : List Int → Nat → Int
  | [], _ => 0
  | x :: _, 0 => x
  | _ :: l, i + 1 => nthI l i
def intsOf (k : IntKind) : List AV → Option (List Int)
  | [] => some []
  | .int k' n :: l => bif decide (k' = k) then (intsOf k l).map (n :: ·) else none
  | _ => none
/-- all cells, where they are numbers of one kind -/
def intsAll : List AV → Option (IntKind × List Int)
  | .int k n :: l => (intsOf k l).map fun ns => (k, n :: ns)
  | _ => none

theorem nthI_get : ∀ {l : List Int} {i : Nat}, i < l.length → l[i]? = some (nthI l i)
  | x :: l, 0, _ => rfl
  | x :: l, i + 1, h => by simpa [nthI] using nthI_get (l := l) (i := i) (by simpa using h)
theorem intsOf_eq {k : IntKind} : ∀ {l : List AV} {ns : List Int}, intsOf k l = some ns → l = ns.map (.int k ·)
  | [], ns, h => by cases h; rfl
  | x :: l, ns, h => by
    cases x <;> simp only [intsOf, reduceCtorEq] at h
    rename_i k' n
    by_cases hk : k' = k
    · subst hk
      simp only [decide_true, cond_true, Option.map_eq_some_iff] at h
      obtain ⟨ns', h', rfl⟩ := h
      rw [intsOf_eq h']
      rfl
    · simp [hk] at h
theorem intsAll_eq {k : IntKind} {l : List AV} {ns : List Int} (h : intsAll l = some (k, ns)) : l = ns.map (.int k ·) := by
  unfold intsAll at h
  split at h
  · simp only [Option.map_eq_some_iff] at h
    obtain ⟨ns', h', he⟩ := h
    cases he
    rw [intsOf_eq h']
    rfl
  · cases h

/-- f i, f (i + 1), .., n of them -/
def intsFrom (f : Nat → Int) : Nat → Nat → List Int
  | _, 0 => []
  | i, n + 1 => f i :: intsFrom f (i + 1) n
theorem intsFrom_len (f : Nat → Int) : ∀ (n i : Nat), (intsFrom f i n).length = n
  | 0, i => rfl
  | n + 1, i => by simp [intsFrom, intsFrom_len f n (i + 1)]
theorem nthI_intsFrom (f : Nat → Int) : ∀ (n i j : Nat), j < n → nthI (intsFrom f i n) j = f (i + j)
  | 0, i, j, h => by omega
  | n + 1, i, 0, h => rfl
  | n + 1, i, j + 1, h => by
    simp only [intsFrom, nthI]
    rw [nthI_intsFrom f n (i + 1) j (by omega), show i + 1 + j = i + (j + 1) by omega]
/-- are all of them whole numbers? -/
def allLK : List LK → Nat → Bool
  | [], 0 => true
  | .int :: l, n + 1 => allLK l n
  | _, _ => false
theorem eqCells_ints {k : IntKind} : ∀ {ls : List LK} {xs ys : List Int}, allLK ls xs.length = true → ys.length = xs.length → eqCells ls (xs.map (.int k ·)) (ys.map (.int k ·)) = some (decide (xs = ys))
  | [], [], [], _, _ => rfl
  | .int :: ls, x :: xs, y :: ys, h, hl => by
    have ih := eqCells_ints (k := k) (ls := ls) (xs := xs) (ys := ys) h (by simpa using hl)
    simp only [List.map_cons, eqCells, if_true, ih, Option.map_some, List.cons.injEq, Bool.decide_and]
  | [], x :: xs, _, h, _ => by simp [allLK] at h
  | [], [], y :: ys, _, hl => by simp at hl
  | .int :: ls, [], _, h, _ => by simp [allLK] at h
  | .int :: ls, x :: xs, [], _, hl => by simp at hl
  | .bool :: ls, xs, _, h, _ => by cases xs <;> simp [allLK] at h
  | .str :: ls, xs, _, h, _ => by cases xs <;> simp [allLK] at h

/-- another value in the c-th cell -/
def setC (c : Nat) (v : AV) : Nat → List AV → List AV
  | _, [] => []
  | j, x :: l => selV (c == j) v x :: setC c v (j + 1) l
theorem setC_get (c : Nat) (v : AV) : ∀ (l : List AV) (j i : Nat), (setC c v j l)[i]? = (l[i]?).map fun x => bif c == j + i then v else x
  | [], j, i => by simp [setC]
  | x :: l, j, 0 => by simp [setC, selV_eq]
  | x :: l, j, i + 1 => by simp [setC, setC_get c v l (j + 1) i, show j + 1 + i = j + (i + 1) by omega]
theorem setC_eq (c : Nat) (v : AV) (l : List AV) : setC c v 0 l = l.set c v := by
  apply List.ext_getElem?
  intro i
  rw [setC_get, List.getElem?_set, Nat.zero_add]
  by_cases h : c = i
  · subst h
    by_cases hl : c < l.length
    · simp [hl]
    · simp [hl]
  · have : (c == i) = false := by simpa using h
    simp [h, this]

abbrev in64 (n : Int) : Prop := -9223372036854775808 ≤ n ∧ n ≤ 9223372036854775807
abbrev inB (n : Int) : Prop := 0 ≤ n ∧ n ≤ 255

/-! ### blocks -/
inductive KR where
  | lst (l : List (List AV))
  | ints (k : IntKind) (sz n : Nat) (q : Nat → Nat → Int)
  | fn (n : Nat) (f : Nat → List AV)
  deriving Inhabited
def KR.list : KR → List (List AV)
  | .lst l => l
  | .ints k sz n q => (List.range n).map fun i => cellsI k sz (q i)
  | .fn n f => (List.range n).map f
def KR.len : KR → Nat
  | .lst l => l.length
  | .ints _ _ n _ => n
  | .fn n _ => n
structure KB where
  e : Nat
  sz : Nat
  r : KR
  deriving Inhabited
def KB.abs (b : KB) : Blk := ⟨b.e, b.sz, b.r.list⟩
def absH (hp : List KB) : List Blk := hp.map KB.abs
structure KS where
  env : List (Nat × AV)
  lo : List (Nat × List AV)
  hp : List KB
  n0 : Nat
  cl : Bool
  deriving Inhabited
def KS.abs (s : KS) : St := ⟨s.env, s.lo, absH s.hp, s.n0, s.cl⟩
structure KE where
  v : AV := .undef
  lo : Option (Nat × List AV) := none
  hp : Option (List KB) := none
  cl : Bool := true
  low : Nat := 0
def KE.abs (e : KE) : Eff := { v := e.v, lo := e.lo, hp := e.hp.map absH, cl := e.cl, low := e.low }
/-- is it a new variable's pointer in its own slot? -/
def selfK (dst : Option Nat) (v : AV) : Option Nat := match v with
  | .lptr d c => match dst with
    | some d' => bif d == d' then (match c with | 0 => some d | _ => none) else none
    | none => none
  | _ => none
def noStaleK (dst : Option Nat) (e : KE) (env : List (Nat × AV)) : Bool := match selfK dst e.v with
  | some d => env.all (fun p => p.1 == d || !isL d (get env p.1))
  | none => true
theorem noStaleK_eq (dst : Option Nat) (e : KE) (env : List (Nat × AV)) : noStaleK dst e env = noStale dst e.abs env := by
  unfold noStaleK noStale selfK
  obtain ⟨v, lo, hp, cl, low⟩ := e
  cases v with
  | lptr d c =>
    cases dst with
    | none => cases c <;> rfl
    | some d' => cases h : d == d' <;> cases c <;> simp [KE.abs, h]
  | _ => cases dst <;> rfl
def KS.app (st : KS) (dst : Option Nat) (e : KE) : KS :=
  { env := putE (match selfK dst e.v with | some d => clr d st.env | none => st.env) dst e.v
    lo := putL st.lo e.lo, hp := e.hp.getD st.hp, n0 := st.n0, cl := st.cl && e.cl }

/-- the i-th of some rows of one shape -/
def rowsAt : List (List AV) → Nat → Nat → List AV
  | [], _, _ => []
  | [x], _, _ => x
  | x :: l, j, i => selL (i == j) x (rowsAt l (j + 1) i)
def setRows (i : Nat) (row : List AV) : Nat → List (List AV) → List (List AV)
  | _, [] => []
  | j, x :: l => selL (i == j) row x :: setRows i row (j + 1) l
/-- another row in the i-th place -/
def KR.set (r : KR) (i : Nat) (row : List AV) : KR :=
  match r with
  | .lst l => .lst (setRows i row 0 l)
  | .ints k sz n q => match intsOf k row with
    | some ns => bif decide (ns.length = sz) then .ints k sz n (fun a c => bif a == i then nthI ns c else q a c) else .lst (((List.range n).map fun i => cellsI k sz (q i)).set i row)
    | none => .lst (((List.range n).map fun i => cellsI k sz (q i)).set i row)
  | .fn n f => .fn n (fun a => selL (a == i) row (f a))
def intRowsOf (k : IntKind) (sz : Nat) : List (List AV) → Option (List (List Int))
  | [] => some []
  | row :: l => match intsOf k row, intRowsOf k sz l with
    | some ns, some nss => bif decide (ns.length = sz) then some (ns :: nss) else none
    | _, _ => none
def nthR : List (List Int) → Nat → Nat → Int
  | [], _, _ => 0
  | [x], _, c => nthI x c
  | x :: _, 0, c => nthI x c
  | _ :: l, i + 1, c => nthR l i c
def KR.app (a b : KR) : KR :=
  match a, b with
  | .lst l, .lst m => .lst (l ++ m)
  | .ints k sz n q, .lst m => match intRowsOf k sz m with
    | some nss => .ints k sz (n + nss.length) (fun a c => bif decide (a < n) then q a c else nthR nss (a - n) c)
    | none => .lst ((KR.ints k sz n q).list ++ m)
  | .ints k sz n q, .ints k' sz' n' q' => bif decide (k = k' ∧ sz = sz') then .ints k sz (n + n') (fun a c => bif decide (a < n) then q a c else q' (a - n) c) else .lst ((KR.ints k sz n q).list ++ (KR.ints k' sz' n' q').list)
  | .fn n f, .lst [row] => .fn (n + 1) (fun a => selL (decide (a < n)) (f a) row)
  | a, b => .lst (a.list ++ b.list)
/-- rows, told by functions -/
def KR.ty (zero : List AV) (m : List (List AV)) : KR :=
  match intsAll zero with
  | some (k, z) => match intRowsOf k z.length m with
    | some nss => .ints k z.length nss.length (nthR nss)
    | none => .lst m
  | none => match m with
    | [] => .fn 0 (fun _ => zero)
    | [row] => .fn 1 (fun _ => row)
    | m => .lst m
def KR.made (typed : Bool) (n : Nat) (zero : List AV) : KR :=
  match typed with
  | true => match intsAll zero with
    | some (k, z) => .ints k z.length n (fun _ c => nthI z c)
    | none => .fn n (fun _ => zero)
  | false => .lst (List.replicate n zero)
def KR.opt (typed : Bool) (zero : List AV) (m : List (List AV)) : KR := match typed with
  | true => KR.ty zero m
  | false => .lst m
def KR.cut (r : KR) (a n : Nat) : KR :=
  match r with
  | .lst l => .lst ((l.drop a).take n)
  | .ints k sz _ q => .ints k sz n (shiftF a q)
  | .fn _ f => .fn n (shiftF a f)

/-- rows written over the rows from the n-th on -/
def KR.over (r : KR) (n : Nat) (new : KR) : KR :=
  match r, new with
  | .ints k sz m q, .ints k' sz' m' q' => bif decide (k = k' ∧ sz = sz') then .ints k sz m (fun a c => bif decide (n ≤ a) && decide (a < n + m') then q' (a - n) c else q a c) else .lst ((KR.ints k sz m q).list.take n ++ ((KR.ints k' sz' m' q').list ++ (KR.ints k sz m q).list.drop (n + m')))
  | r, new => .lst (r.list.take n ++ (new.list ++ r.list.drop (n + new.len)))
/-- the same row many times, told as the rows of r are -/
def KR.madeAs (r : KR) (n : Nat) (zero : List AV) : KR := match r with
  | .ints _ _ _ _ => KR.made true n zero
  | _ => .lst (List.replicate n zero)

def storeRowK (v : AV) (row : List AV) (c : Nat) : List AV :=
  match v with
  | .agg cs => splice row c cs
  | x => setC c x 0 row

/-- another value in the c-th cell of the i-th row -/
def KR.put (r : KR) (i c : Nat) (v : AV) (row : List AV) : KR :=
  match r, v with
  | .ints k sz n q, .int k' x => bif decide (k' = k) then .ints k sz n (fun a d => bif (d == c) && (a == i) then x else q a d) else (KR.ints k sz n q).set i (storeRowK (.int k' x) row c)
  | r, v => r.set i (storeRowK v row c)
def byteAt (s : ByteArray) (i : Nat) : Int := ((s.data[i]?).getD 0).toNat

/-- a string's bytes, told by a function -/
def strRows (s : ByteArray) : KR := .ints .u8 1 s.size fun i _ => byteAt s i

/-- rows put behind a slice that has none: 'typed': they are told by functions -/
def onto (typed : Bool) (zero : List AV) (new : KR) : KR := match new with
  | .lst m => KR.opt typed zero m
  | r => r
def bytesK (r : KR) : Option ByteArray :=
  match r with
  | .ints .u8 1 n q => some ⟨((List.range n).map fun i => UInt8.ofNat (q i 0).toNat).toArray⟩
  | .lst l => (bytesOf l).map fun b => ⟨b.toArray⟩
  | _ => none

/-- for a function: the slots whose new slices are told by functions -/
abbrev Typed := List Nat

/-- what is known now of a slot that holds a boolean -/
def learn (d : Nat) (b : Bool) : List (Nat × AV) → List (Nat × AV)
  | [] => []
  | (t, v) :: l => bif t == d then (t, .bool b) :: l else (t, v) :: learn d b l

def footK (o : Oper) (st : KS) (e : KE) : Foot :=
  { act := e.hp.isSome
    rd := (tmpVs st.env o.op.operands.toList).flatMap locL ++ locL e.v ++ dstL st.env o.dst ++ (tmpVs st.env (looksH o.op)).flatMap locH ++ (bif isCallFn o.op then [.ge 0] else [])
    wr := (match e.lo with | some (d, _) => [.lo d] | none => []) ++ (match e.v, o.dst with | .lptr d _, some d' => bif d == d' then [.lo d] else [] | _, _ => []) ++
      (bif e.hp.isSome then (bif isCallFn o.op then [.ge e.low] else .ge st.hp.length :: (tmpVs st.env (writesH o.op)).flatMap locH) else []) }

def normK (cfg : Cfg) (c : Code) (st : KS) : KS :=
  match firstRegion c with
  | some i => match cfg.keep.lookup i with
    | some (ks, ls) => { st with env := pickE st.env ks, lo := pickL st.lo ls }
    | none => st
  | none => st

/-- rounds: how many of each loop, told by its first region -/
abbrev Rounds := Nat → Nat
def roundsOf (m : Rounds) (c : Code) : Nat := match firstRegion c with
  | some i => m i
  | none => 0

/-- an answer that may hang on conditions: each comes to the head of a run -/
inductive Ans where
  | is (y : Bool × AV × List KB)
  | cut (c : Bool) (x y : Ans)
def Ans.val : Ans → Bool × AV × List KB
  | .is y => y
  | .cut c x y => bif c then x.val else y.val
def Ans.to {β : Type} (k : Bool × AV × List KB → Option β) : Ans → Option β
  | .is y => k y
  | .cut c x y => bif c then x.to k else y.to k
theorem Ans.to_val {β : Type} (k : Bool × AV × List KB → Option β) : ∀ a : Ans, a.to k = k a.val
  | .is y => rfl
  | .cut c x y => by cases c <;> simp [Ans.to, Ans.val, Ans.to_val k]
/-- what is told of a function: under a condition, the value and the new blocks -/
abbrev KTbl := Nat → Option (List AV → Option Ans)
def tblOf (kt : KTbl) : Tbl := fun f => (kt f).map fun g vs => (g vs).bind fun a => bif a.val.1 then some (a.val.2.1, absH a.val.2.2) else none

def canonI (n sz : Nat) (q : Nat → Nat → Int) : Nat → Nat → Int := fun i j => bif decide (i < n) && decide (j < sz) then q i j else 0

def shiftR (d : Nat) : KR → KR
  | .lst l => .lst (l.map (shiftVs d))
  | .ints k sz n q => .ints k sz n q
  | .fn n f => .fn n (fun i => shiftVs d (f i))
def shiftKB (d : Nat) (b : KB) : KB := ⟨b.e, b.sz, shiftR d b.r⟩
/-- what is told of functions that write into one block of numbers -/
abbrev KMT := Nat → Option (List AV → NB → Option (Bool × AV × NB))
def mtOf (mt : KMT) : MTbl := fun f => (mt f).map fun g vs b => (g vs b).bind fun y => bif y.1 then some y.2 else none
def KB.ofNB (b : NB) : KB := ⟨b.e, b.sz, .ints b.k b.sz b.n b.q⟩
def nbOf (T : Nat → Option TI) (b : KB) : Option NB := match b.r with
  | .ints k sz n q => match kindOf T b.e with
    | some (k', sz') => bif decide (k = k' ∧ sz = sz' ∧ b.sz = sz) then some ⟨b.e, sz, k, n, canonI n sz q⟩ else none
    | none => none
  | _ => none

/-- the settings: base settings, typed slots, rounds of loops in functions that are run in their place -/
structure KCfg where
  of : Nat → Cfg
  ty : Nat → Typed
  tbl : KTbl
  mtb : KMT
def KCfg.cfgs (P : Program) (c : KCfg) : Cfgs := ⟨c.of, oraAll (tiOf P) (tblOf c.tbl) (mtOf c.mtb)⟩

/-- the piece of code at a path: left or right, into a block or a loop -/
def codeAt : Code → List Bool → Code
  | c, [] => c
  | .seq a b, x :: l => bif x then codeAt b l else codeAt a l
  | .cond _ a b, x :: l => bif x then codeAt b l else codeAt a l
  | .block _ c, _ :: l => codeAt c l
  | .loop c, _ :: l => codeAt c l
  | c, _ :: _ => c

def bodyOf (P : Program) (f : Nat) : Code := ((P.funcs[f]?).bind (·.body)).getD .skip
def fnOf (P : Program) (f : Nat) : Func := (P.funcs[f]?).getD default

abbrev done : AV → List KB → Nat → Option (AV × List KB × Bool) := fun v hp _ => some (v, hp, true)

def scalarV : AV → Bool
  | .int _ _ | .bool _ | .str _ => true
  | _ => false

-- CONTROL
def rowK {β : Type} (r : KR) (i : Nat) (k : List AV → Option β) : Option β :=
  match r with
  | .lst l => bif decide (i < l.length) then k (rowsAt l 0 i) else none
  | .ints kk sz n q => bif decide (i < n) then k (cellsI kk sz (q i)) else none
  | .fn n f => bif decide (i < n) then k (f i) else none
section
variable {β : Type}

def freshK (hp : List KB) (i t : Nat) (k : KB → Option β) : Option β := (hp[i]?).bind fun b => bif t == b.r.len then k b else none

def binK (op : BinOp) (kk : IntKind) (x y : Int) (k : AV → Option β) : Option β :=
  match op with
  | .quo => bif decide (y = 0) then none else k (.int kk (kk.wrap (x.tdiv y)))
  | .rem => bif decide (y = 0) then none else k (.int kk (x.tmod y))
  | op => (binI op kk x y).bind k

def binAK (ti : Option TI) (op : BinOp) (x y : AV) (k : AV → Option β) : Option β :=
  match x, y with
  | .bool a, .bool b => ti.bind fun t => match t.d, op with
    | .bool, .eql => k (.bool (a == b))
    | .bool, .neq => k (.bool (!(a == b)))
    | _, _ => none
  | .int ka a, .int kb b =>
    match op with
    | .shl => bif decide (b < 0) then none else k (.int ka (ka.wrap (a * 2 ^ (min b.toNat ka.bits))))
    | .shr => bif decide (b < 0) then none else k (.int ka (a.fdiv (2 ^ (min b.toNat ka.bits))))
    | op => bif decide (ka = kb) then binK op ka a b k else none
  | .str a, .str b =>
    match op with
    | .add => bif decide (a.size + b.size ≤ most) then k (.str (a ++ b)) else none
    | op => (binS op a b).bind k
  | .agg a, .agg b =>
    match intsAll a, intsAll b, ti.bind (·.leaf) with
    | some (ka, xs), some (kb, ys), some ls =>
      bif decide (ka = kb ∧ ys.length = xs.length) && allLK ls xs.length then
        match op with
        | .eql => k (.bool (decide (xs = ys)))
        | .neq => k (.bool (!decide (xs = ys)))
        | _ => none
      else none
    | _, _, _ => (binA (ti.bind (·.leaf)) op (.agg a) (.agg b)).bind k
  | x, y => (binT ti op x y).bind k

variable (T : Nat → Option TI)

def rowAtK (lo : List (Nat × List AV)) (hp : List KB) (p : AV) (k : List AV → Nat → Option β) : Option β :=
  match p with
  | .lptr d c => (lo.lookup d).bind fun r => k r c
  | .vp r c => k r c
  | .ptr i r c t => freshK hp i t fun b => rowK b.r r fun x => k x c
  | _ => none

def cellK (cs : List AV) (off : Nat) (k : AV → Option β) : Option β :=
  match intsAll cs with
  | some (kk, ns) => bif decide (off < ns.length) then k (.int kk (nthI ns off)) else none
  | none => (cs[off]?).bind k

def partK (ti : TI) (cs : List AV) (off : Nat) (k : AV → Option β) : Option β :=
  bif agg? ti.d then (bif decide (off + ti.size ≤ cs.length) then k (.agg ((cs.drop off).take ti.size)) else none)
  else cellK cs off k

def loadK (lo : List (Nat × List AV)) (hp : List KB) (ty : Nat) (p : AV) (k : AV → Option β) : Option β :=
  rowAtK lo hp p fun row c => (T ty).bind fun ti => partK ti row c k

def storeK (lo : List (Nat × List AV)) (hp : List KB) (n0 : Nat) (ty : Nat) (p v : AV) (k : KE → Option β) : Option β :=
  (T ty).bind fun ti =>
    bif v.noL && decide (v.cells.length = ti.size) then
      match p with
      | .lptr d c => (lo.lookup d).bind fun row => bif decide (c + ti.size ≤ row.length) then k { lo := some (d, storeRowK v row c) } else none
      | .ptr i r c t => freshK hp i t fun b => rowK b.r r fun row =>
          bif decide (c + ti.size ≤ row.length) then k { hp := some (hp.set i { b with r := b.r.put r c v row }), cl := decide (n0 ≤ i) } else none
      | _ => none
    else none

def varK (esc : Bool) (hp : List KB) (dst : Option Nat) (ty : Nat) (cs : List AV) (k : KE → Option β) : Option β :=
  match dst with
  | some d => bif esc then (bif decide (0 < cs.length) then k { v := .ptr hp.length 0 0 1, hp := some (hp ++ [⟨ty, cs.length, .lst [cs]⟩]) } else none)
    else k { v := .lptr d 0, lo := some (d, cs) }
  | none => none

def indexAddrK (hp : List KB) (ty : Nat) (x i : AV) (k : AV → Option β) : Option β :=
  match i with
  | .int _ i =>
    match x with
    | .sl q r n t => freshK hp q t fun b => (elemT T ty).bind fun e => bif decide (e.2.size = b.sz) then bif decide (0 ≤ i ∧ i < n) then bif decide (r + n ≤ b.r.len) then k (.ptr q (r + i.toNat) 0 t) else none else none else none
    | .ssl q r c n t => freshK hp q t fun _ => (elemT T ty).bind fun e => bif decide (e.2.size = 1) then bif decide (0 ≤ i ∧ i < n) then k (.ptr q r (c + i.toNat) t) else none else none
    | .vs sz rows => (elemT T ty).bind fun e => bif decide (e.2.size = sz) then bif decide (0 ≤ i ∧ i < rows.length) then k (.vp (rowsAt rows 0 i.toNat) 0) else none else none
    | .vf sz n f => (elemT T ty).bind fun e => bif decide (e.2.size = sz) then bif decide (0 ≤ i ∧ i < n) then k (.vp (f i.toNat) 0) else none else none
    | .vi kk sz n q => (elemT T ty).bind fun e => bif decide (e.2.size = sz) then bif decide (0 ≤ i ∧ i < n) then k (.vp (cellsI kk sz (q i.toNat)) 0) else none else none
    | .vm n m q => (elemT T ty).bind fun e => bif decide (e.2.size = 1) then bif decide (0 ≤ i ∧ i < n) then k (.vp [.vi .i64 1 (m i.toNat) fun j _ => q i.toNat j] 0) else none else none
    | .lptr d c => (arrT T ty).bind fun e => bif decide (0 ≤ i ∧ i < e.1) then k (.lptr d (c + i.toNat * e.2.size)) else none
    | .vp r c => (arrT T ty).bind fun e => bif decide (0 ≤ i ∧ i < e.1) then k (.vp r (c + i.toNat * e.2.size)) else none
    | .ptr q r c t => freshK hp q t fun _ => (arrT T ty).bind fun e => bif decide (0 ≤ i ∧ i < e.1) then k (.ptr q r (c + i.toNat * e.2.size) t) else none
    | _ => none
  | _ => none

def indexK (ty : Nat) (x i : AV) (k : AV → Option β) : Option β :=
  match i with
  | .int _ i =>
    match x with
    | .str s => bif isStr T ty then bif decide (0 ≤ i ∧ i < s.size) then k (.int .u8 (byteAt s i.toNat)) else none else none
    | .agg cs => (arrT T ty).bind fun e => bif decide (0 ≤ i ∧ i < e.1) then partK e.2 cs (i.toNat * e.2.size) k else none
    | _ => none
  | _ => none

def cutK (n : Nat) (lo hi : Option Int) (k : Nat → Nat → Option β) : Option β :=
  bif decide (0 ≤ lo.getD 0 ∧ lo.getD 0 ≤ hi.getD n ∧ hi.getD n ≤ n) then k (lo.getD 0).toNat (hi.getD n).toNat else none

def sliceK (hp : List KB) (ty : Nat) (x : AV) (lo hi mx : Option Int) (k : AV → Option β) : Option β :=
  match mx with
  | none =>
    match x with
    | .str s => bif isStr T ty then cutK s.size lo hi fun l h => k (.str (s.extract l h)) else none
    | .nilsl => (elemT T ty).bind fun _ => cutK 0 lo hi fun _ _ => k .nilsl
    | .esl => (elemT T ty).bind fun _ => cutK 0 lo hi fun _ _ => k .esl
    | .sl q r n t => (elemT T ty).bind fun e => freshK hp q t fun b => bif decide (e.2.size = b.sz) then bif decide (r + n ≤ b.r.len) then cutK n lo hi fun l h => k (.sl q (r + l) (h - l) t) else none else none
    | .vs sz rows => (elemT T ty).bind fun e => bif decide (e.2.size = sz) then cutK rows.length lo hi fun l h => k (.vs sz ((rows.drop l).take (h - l))) else none
    | .vf sz n f => (elemT T ty).bind fun e => bif decide (e.2.size = sz) then cutK n lo hi fun l h => k (.vf sz (h - l) (fun i => f (l + i))) else none
    | .vi kk sz n q => (elemT T ty).bind fun e => bif decide (e.2.size = sz) then cutK n lo hi fun l h => k (.vi kk sz (h - l) (shiftF l q)) else none
    | .ptr q r c t => (arrT T ty).bind fun e => freshK hp q t fun b => bif decide (e.2.size = 1) then bif decide (r < b.r.len ∧ c + e.1 ≤ b.sz) then cutK e.1 lo hi fun l h => k (.ssl q r (c + l) (h - l) t) else none else none
    | _ => none
  | some m =>
    bif decide (m = 0 ∧ lo.getD 0 = 0 ∧ hi = some 0) then
      match x with
      | .nilsl => (elemT T ty).bind fun _ => k .nilsl
      | .esl => (elemT T ty).bind fun _ => k .esl
      | .sl q _ _ t => (elemT T ty).bind fun _ => freshK hp q t fun _ => k .esl
      | .vf _ _ _ => (elemT T ty).bind fun _ => k .esl
      | .vi _ _ _ _ => (elemT T ty).bind fun _ => k .esl
      | _ => none
    else none

def lenK (hp : List KB) (ty : Nat) (x : AV) (k : AV → Option β) : Option β :=
  match x with
  | .sl q _ n t => (elemT T ty).bind fun _ => freshK hp q t fun _ => k (.int .i64 n)
  | .ssl q _ _ n t => (elemT T ty).bind fun _ => freshK hp q t fun _ => k (.int .i64 n)
  | x => (lenA T [] ty x).bind k

def rowsK (hp : List KB) (size : Nat) (x : AV) (k : KR → Option β) : Option β :=
  match x with
  | .sl q r n t => freshK hp q t fun b => bif decide (b.sz = size) then bif decide (r + n ≤ b.r.len) then k (b.r.cut r n) else none else none
  | .nilsl => k (.lst [])
  | .esl => k (.lst [])
  | .vs sz rows => bif decide (sz = size) then k (.lst rows) else none
  | .vf sz n f => bif decide (sz = size) then k (.fn n f) else none
  | .vi kk sz n q => bif decide (sz = size) then k (.ints kk sz n q) else none
  | .str s => bif decide (size = 1) then k (strRows s) else none
  | _ => none

def appendK (typed : Bool) (hp : List KB) (n0 : Nat) (e : Nat) (te : TI) (s : AV) (new : KR) (k : KE → Option β) : Option β :=
  match s with
  | .sl q 0 n t => freshK hp q t fun b =>
      bif decide (b.e = e ∧ b.sz = te.size) then
        bif decide (n + new.len ≤ most) then
          bif decide (n = t) then k { v := .sl q 0 (n + new.len) (t + new.len), hp := some (hp.set q { b with r := b.r.app new }), cl := decide (n0 ≤ q) }
          else bif decide (n + new.len ≤ t) then bif decide (n + new.len ≤ b.r.len) then k { v := .sl q 0 (n + new.len) t, hp := some (hp.set q { b with r := b.r.over n new }), cl := decide (n0 ≤ q) } else none
          else none
        else none
      else none
  | .nilsl => bif decide (new.len = 0) then k { v := .nilsl } else bif decide (new.len ≤ most) then k { v := .sl hp.length 0 new.len new.len, hp := some (hp ++ [⟨e, te.size, onto typed te.zero new⟩]) } else none
  | .esl => bif decide (new.len = 0) then k { v := .esl } else bif decide (new.len ≤ most) then k { v := .sl hp.length 0 new.len new.len, hp := some (hp ++ [⟨e, te.size, onto typed te.zero new⟩]) } else none
  | _ => none

def clearK (hp : List KB) (n0 : Nat) (zero : List AV) (x : AV) (k : KE → Option β) : Option β :=
  match x with
  | .nilsl => k { v := .tup [] }
  | .esl => k { v := .tup [] }
  | .sl q r n t => freshK hp q t fun b => bif decide (r + n ≤ b.r.len) then bif decide (zero.length = b.sz) then
      k { v := .tup [], hp := some (hp.set q { b with r := b.r.over r (b.r.madeAs n zero) }), cl := decide (n0 ≤ q) } else none else none
  | _ => none

def builtinK (typed : Bool) (st : KS) (b : Builtin) (tys : List Nat) (vs : List AV) (k : KE → Option β) : Option β :=
  match b, tys, vs with
  | .len, ty :: _, x :: _ => lenK T st.hp ty x fun v => k { v }
  | .cap, ty :: _, .nilsl :: _ => (elemT T ty).bind fun _ => k { v := .int .i64 0 }
  | .append, [ty, ty2], [s, x] =>
    (elemT T ty).bind fun e =>
      bif decide (e.2.bytes ≤ 1024 ∧ 0 < e.2.size) then
        bif isInt T ty2 then
          (match x with
           | .int .i64 n => bif decide (0 ≤ n ∧ n ≤ most) then appendK typed st.hp st.n0 e.1 e.2 s (KR.made typed n.toNat e.2.zero) k else none
           | _ => none)
        else bif isSrc T ty2 then rowsK st.hp e.2.size x fun new => appendK typed st.hp st.n0 e.1 e.2 s new k else none
      else none
  | .clear, [ty], [x] => (elemT T ty).bind fun e => clearK st.hp st.n0 e.2.zero x k
  | .max, _, .int kk n :: l => (foldI (fun x y => cond (decide (y > x)) y x) kk n l).bind fun v => k { v }
  | .min, _, .int kk n :: l => (foldI (fun x y => cond (decide (y < x)) y x) kk n l).bind fun v => k { v }
  | _, _, _ => none

def pickK (c a b : AV) (k : AV → Option β) : Option β :=
  match c with
  | .bool t => k (selV t a b)
  | _ => none

def convK (hp : List KB) (src dst : Nat) (x : AV) (k : AV → Option β) : Option β :=
  (T src).bind fun _ => (T dst).bind fun ti =>
    match ti.d with
    | .int kk => (match x with
      | .int _ n => k (.int kk (kk.wrap n))
      | _ => none)
    | .str => (match x with
      | .str s => k (.str s)
      | .sl q r n t => bif isBytes T src then rowsK hp 1 (.sl q r n t) fun rows => (bytesK rows).bind fun s => k (.str s) else none
      | _ => none)
    | _ => none

/-- calls, with what comes behind -/
abbrev RecK (β : Type) := Nat → List AV → List KB → (AV → List KB → Nat → Option β) → Option β

def callK (rec : RecK β) (hp : List KB) (n0 f : Nat) (vs : List AV) (k : KE → Option β) : Option β :=
  bif allNoL vs then rec f vs hp fun v hp c => k { v, hp := some hp, cl := decide (n0 ≤ c), low := c } else none

def effK (rec : RecK β) (cfg : Cfg) (ty : Typed) (o : Oper) (st : KS) (k : KE → Option β) : Option β :=
  match o.op with
  | .move x => (opd st.env x).bind fun v => k { v }
  | .assign x => (opd st.env x).bind fun v => k { v }
  | .pick c a b => (opd st.env c).bind fun c => (opd st.env a).bind fun a => (opd st.env b).bind fun b => pickK c a b fun v => k { v }
  | .alloc e => (T e).bind fun ti => varK (cfg.esc.contains (o.dst.getD 0)) st.hp o.dst e ti.zero k
  | .box e x => (T e).bind fun ti => (opd st.env x).bind fun v =>
      bif v.noL && decide (v.cells.length = ti.size) then varK (cfg.esc.contains (o.dst.getD 0)) st.hp o.dst e v.cells k else none
  | .build t parts => (opds st.env parts.toList).bind fun ps => (buildA T t ps).bind fun cs => k { v := .agg cs }
  | .buildSlice t len parts => (elemT T t).bind fun e => (opds st.env parts.toList).bind fun ps =>
      bif decide (0 < e.2.size ∧ len ≤ 1024 ∧ e.2.size ≤ 1024) then
        (packed (evenly len e.2.size) ps 0 0).bind fun rows =>
          bif cfg.virt.contains (o.dst.getD 0) then k { v := .vs e.2.size rows }
          else k { v := .sl st.hp.length 0 len len, hp := some (st.hp ++ [⟨e.1, e.2.size, KR.opt (ty.contains (o.dst.getD 0)) e.2.zero rows⟩]) }
      else none
  | .load t p => (opd st.env p).bind fun p => loadK T st.lo st.hp t p fun v => k { v }
  | .store t p x => (opd st.env p).bind fun p => (opd st.env x).bind fun v => storeK T st.lo st.hp st.n0 t p v k
  | .nilCheck x => (opd st.env x).bind fun
    | .lptr d c => k { v := .lptr d c }
    | .vp r c => k { v := .vp r c }
    | .ptr q r c t => freshK st.hp q t fun _ => k { v := .ptr q r c t }
    | .fn f caps => k { v := .fn f caps }
    | _ => none
  | .binOp op t x y _ => (opd st.env x).bind fun a => (opd st.env y).bind fun b => binAK (T t) op a b fun v => k { v }
  | .unOp op _ x => (opd st.env x).bind fun a => (unA op a).bind fun v => k { v }
  | .convert src dst x => (opd st.env x).bind fun a => convK T st.hp src dst a fun v => k { v }
  | .makeFunc fn first captured => match fn with
    | .func f => bif decide (first.size = 0) then (args st.env captured.toList).bind fun vs => bif allNoL vs then k { v := .fn f vs } else none else none
    | _ => none
  | .makeSlice t l c => (elemT T t).bind fun e => (opd st.env l).bind fun l => (opd st.env c).bind fun c =>
      match l, c with
      | .int .i64 n, .int .i64 m =>
        bif decide (0 < e.2.size ∧ e.2.bytes ≤ 1024) then
          bif decide (0 ≤ n ∧ n = m ∧ n ≤ most) then k { v := .sl st.hp.length 0 n.toNat n.toNat, hp := some (st.hp ++ [⟨e.1, e.2.size, KR.made (ty.contains (o.dst.getD 0)) n.toNat e.2.zero⟩]) } else none
        else none
      | _, _ => none
  | .slice t x lo hi mx => (opd st.env x).bind fun v => (optI st.env lo).bind fun lo => (optI st.env hi).bind fun hi => (optI st.env mx).bind fun mx => sliceK T st.hp t v lo hi mx fun v => k { v }
  | .fieldAddr s x f => (opd st.env x).bind fun p => (fieldT T s f).bind fun g => bif decide (g.2.size = 0) then none else
    match p with
    | .lptr d c => k { v := .lptr d (c + g.1) }
    | .vp r c => k { v := .vp r (c + g.1) }
    | .ptr q r c t => freshK st.hp q t fun _ => k { v := .ptr q r (c + g.1) t }
    | _ => none
  | .field s x f => (opd st.env x).bind fun v => match v with
    | .agg cs => (fieldT T s f).bind fun g => partK g.2 cs g.1 fun v => k { v }
    | _ => none
  | .indexAddr t x i => (opd st.env x).bind fun v => (opd st.env i).bind fun i => indexAddrK T st.hp t v i fun v => k { v }
  | .index t x i => (opd st.env x).bind fun v => (opd st.env i).bind fun i => indexK T t v i fun v => k { v }
  | .extract x i => (opd st.env x).bind fun
    | .tup vs => (vs[i]?).bind fun v => k { v }
    | _ => none
  | .call c => (args st.env c.args.toList).bind fun vs =>
      match c.callee with
      | .value (.func f) => callK rec st.hp st.n0 f vs k
      | .value x => (opd st.env x).bind fun
        | .fn f caps => callK rec st.hp st.n0 f (vs ++ caps) k
        | _ => none
      | .builtin b => builtinK T (ty.contains (o.dst.getD 0)) st b c.argTypes.toList vs k
      | _ => none
  | _ => none

def guardK (ops : Array Oper) (o : Oper) (st : KS) (kt kf : KS → Option β) : Option β :=
  match o.guard with
  | none => kt st
  | some (j, want) => ((ops[j]?).bind (·.dst)).bind fun d => match st.env.lookup d with
    | some (.bool b) => match want with
      | true => bif b then kt { st with env := learn d true st.env } else kf { st with env := learn d false st.env }
      | false => bif b then kf { st with env := learn d true st.env } else kt { st with env := learn d false st.env }
    | some (.tup []) => kf st
    | _ => none

def stepK (rec : RecK β) (cfg : Cfg) (ty : Typed) (ops : Array Oper) (o : Oper) (st : KS) (k : KS → Option β) : Option β :=
  guardK ops o st (fun st => effK T rec cfg ty o st fun e => k (st.app o.dst e)) (fun st => k { st with env := putE st.env o.dst (.tup []) })

def opsK (rec : RecK β) (cfg : Cfg) (ty : Typed) (ops : Array Oper) : List Oper → KS → (KS → Option β) → Option β
  | [], st, k => k st
  | o :: l, st, k => stepK T rec cfg ty ops o st fun st => opsK rec cfg ty ops l st k

def stepDK (rec : RecK β) (cfg : Cfg) (ty : Typed) (ops : Array Oper) (o : Oper) (st : KS) (k : KS → Foot → Option β) : Option β :=
  guardK ops o st (fun st => effK T rec cfg ty o st fun e => bif noStaleK o.dst e st.env then k (st.app o.dst e) (footK o st e) else none) (fun st => k { st with env := putE st.env o.dst (.tup []) } { rd := dstL st.env o.dst })

def opsDK (rec : RecK β) (cfg : Cfg) (ty : Typed) (ops : Array Oper) : List Oper → KS → (KS → List Foot → Option β) → Option β
  | [], st, k => k st []
  | o :: l, st, k => stepDK T rec cfg ty ops o st fun st f => opsDK rec cfg ty ops l st fun st fs => k st (f :: fs)

def regionK (rec : RecK β) (cfg : Cfg) (ty : Typed) (ops : Array Oper) (draw : Bool) (st : KS) (k : KS → Option β) : Option β :=
  match draw with
  | true => bif orderOk ops then opsDK T rec cfg ty ops ops.toList st fun st fs => bif feetOk ops fs then k st else none else none
  | false => opsK T rec cfg ty ops ops.toList st k

def loopK (nm : KS → KS) (body : KS → (Ex → KS → Option β) → Option β) : Nat → KS → (Ex → KS → Option β) → Option β
  | 0, _, _ => none
  | n + 1, st, k => body st fun x st => match x with
    | .normal => loopK nm body n (nm st) k
    | x => k x st

/-- behind a block; behind the whole of a function -/
def kBlock (id : Nat) (k : Ex → KS → Option β) : Ex → KS → Option β := fun x st => match x with
  | .exit i => bif decide (i = id) then k .normal st else k (.exit i) st
  | x => k x st
/-- before another piece of code -/
def kSeq (next : KS → (Ex → KS → Option β) → Option β) (k : Ex → KS → Option β) : Ex → KS → Option β := fun x st => match x with
  | .normal => next st k
  | x => k x st

def resK (st : KS) (r : ResultVar) (k : AV → Option β) : Option β := match r with
  | .tmp t => k (get st.env t)
  | .cell a t => loadK T st.lo st.hp t (get st.env a) k
def resKs (st : KS) : List ResultVar → (List AV → Option β) → Option β
  | [], k => k []
  | r :: rs, k => resK T st r fun v => resKs st rs fun vs => k (v :: vs)

/-- no names of blocks in these rows? -/
def bareK (r : KR) (k : Bool → Option β) : Option β := match r with
  | .lst l => match refsR l with
    | [] => k true
    | _ => k false
  | .ints _ _ _ _ => k true
  | .fn n f => bif ((List.range n).map f).all fun row => row.all scalarV then k true else none

def outK (hp0 : List KB) (st : KS) (r : AV) (k : AV → List KB → Nat → Option β) : Option β :=
  bif st.cl then
    match refs r with
    | [] => k r hp0 st.n0
    | _ => match tops r with
      | some [i] =>
        bif decide (st.n0 ≤ i) then
          match st.hp[i]? with
          | some b => bareK b.r fun bare => match bare with
            | true => k (ren i st.n0 r) (hp0 ++ [b]) st.n0
            | false => k r st.hp st.n0
          | none => k r st.hp st.n0
        else k r hp0 st.n0
      | _ => k r st.hp st.n0
  else k r st.hp 0

def finishK (fn : Func) (hp0 : List KB) (st : KS) (k : AV → List KB → Nat → Option β) : Option β :=
  resKs T st fn.results.toList fun vs => bif allNoL vs then outK hp0 st (one vs) k else none
def kFn (fn : Func) (hp0 : List KB) (k : AV → List KB → Nat → Option β) : Ex → KS → Option β := fun x st => match x with
  | .normal => finishK T fn hp0 st k
  | .ret => finishK T fn hp0 st k
  | _ => none

def codeK (m : Rounds) (rec : RecK β) (cfg : Cfg) (ty : Typed) : Code → KS → (Ex → KS → Option β) → Option β
  | .skip, st, k => k .normal st
  | .region _ ops draw, st, k => regionK T rec cfg ty ops draw st fun st => k .normal st
  | .seq a b, st, k => codeK m rec cfg ty a st (kSeq (codeK m rec cfg ty b) k)
  | .cond c a b, st, k => match c with
    | .tmp t => match st.env.lookup t with
      | some (.bool v) => bif v then codeK m rec cfg ty a { st with env := learn t true st.env } k else codeK m rec cfg ty b { st with env := learn t false st.env } k
      | _ => none
    | .const (.bool v) => bif v then codeK m rec cfg ty a st k else codeK m rec cfg ty b st k
    | _ => none
  | .block id c, st, k => codeK m rec cfg ty c st (kBlock id k)
  | .loop c, st, k => loopK (normK cfg c) (codeK m rec cfg ty c) (roundsOf m c) (normK cfg c st) k
  | .exit id, st, k => k (.exit id) st
  | .ret, st, k => k .ret st
  | _, _, _ => none

end

/-! ### calls -/
section
variable {β : Type} (T : Nat → Option TI)

/-- a slice's rows, frozen -/
def frzRows (kk : IntKind) (sz : Nat) (r : KR) (k : AV → Option β) : Option β :=
  match r with
  | .ints k' sz' n q => bif decide (k' = kk ∧ sz' = sz) then k (.vi kk sz n (canonI n sz q)) else none
  | .lst l => match intRowsOf kk sz l with
    | some nss => k (.vi kk sz nss.length (canonI nss.length sz (nthR nss)))
    | none => none
  | .fn _ _ => none
def frz1K (hp : List KB) (x : AV) (k : AV → Option β) : Option β :=
  match x with
  | .sl q r n t => freshK hp q t fun b => (kindOf T b.e).bind fun g => bif decide (b.sz = g.2) then bif decide (r + n ≤ b.r.len) then frzRows g.1 g.2 (b.r.cut r n) k else none else none
  | x => (freeze1 T [] x).bind k
def frzLK (hp : List KB) : List AV → (List AV → Option β) → Option β
  | [], k => k []
  | v :: l, k => frz1K T hp v fun v' => frzLK hp l fun l' => k (v' :: l')
def frzVK (hp : List KB) (x : AV) (k : AV → Option β) : Option β :=
  match x with
  | .agg cs => frzLK T hp cs fun cs => k (.agg cs)
  | x => frz1K T hp x k
def frzVsK (hp : List KB) : List AV → (List AV → Option β) → Option β
  | [], k => k []
  | v :: l, k => frzVK T hp v fun v' => frzVsK hp l fun l' => k (v' :: l')

end

/-- is it told as a call that writes (where a block is named)? -/
def mtAt (mt : KMT) (f : Nat) (ks : List Nat) : Option (List AV → NB → Option (Bool × AV × NB)) := match ks with
  | [] => none
  | _ => mt f

def mutK {β : Type} (T : Nat → Option TI) (hp : List KB) (vs : List AV) (g : List AV → NB → Option (Bool × AV × NB)) (k : AV → List KB → Nat → Option β) : Option β :=
  match oneRef (refsL vs) with
  | some i => (hp[i]?).bind fun b => bif (topsL vs).isSome then (nbOf T b).bind fun nb => (g (renL i 0 vs) nb).bind fun y => bif y.1 then k (shiftV i y.2.1) (hp.set i (KB.ofNB y.2.2)) i else none else none
  | none => none

def evalK {β : Type} (P : Program) (c : KCfg) : Nat → RecK β
  | 0, _, _, _, _ => none
  | n + 1, f, vs, hp, k =>
    match c.tbl f with
    | some g => frzVsK (tiOf P) hp vs fun vs' => (g vs').bind fun a => a.to fun y => bif y.1 then k (shiftV hp.length y.2.1) (hp ++ y.2.2.map (shiftKB hp.length)) hp.length else none
    | none =>
     match mtAt c.mtb f (refsL vs) with
     | some g => mutK (tiOf P) hp vs g k
     | none =>
      match P.funcs[f]? with
      | some fn => match fn.body with
        | some b =>
          bif codeOk (max fn.ntmps vs.length) b then
            codeK (tiOf P) (fun _ => n) (evalK P c n) (c.of f) (c.ty f) b ⟨zipEnv vs 0, [], hp, hp.length, true⟩ (kFn (tiOf P) fn hp k)
          else none
        | none => none
      | none => none

/-- one function, called in a heap -/
def fnKH {β : Type} (P : Program) (c : KCfg) (n : Nat) (m : Rounds) (f : Nat) (vs : List AV) (hp0 : List KB) (k : AV → List KB → Nat → Option β) : Option β :=
  match P.funcs[f]? with
  | some fn => match fn.body with
    | some b =>
      bif codeOk (max fn.ntmps vs.length) b then
        codeK (tiOf P) m (evalK P c n) (c.of f) (c.ty f) b ⟨zipEnv vs 0, [], hp0, hp0.length, true⟩ (kFn (tiOf P) fn hp0 k)
      else none
    | none => none
  | none => none
abbrev fnK {β : Type} (P : Program) (c : KCfg) (n : Nat) (m : Rounds) (f : Nat) (vs : List AV) (k : AV → List KB → Nat → Option β) : Option β := fnKH P c n m f vs [] k

/-! ### a loop within a function: the rounds that are left, and what comes behind -/
/-- behind a round -/
def kLoop {β : Type} (nm : KS → KS) (body : KS → (Ex → KS → Option β) → Option β) (m : Nat) (k : Ex → KS → Option β) : Ex → KS → Option β := fun x st => match x with
  | .normal => loopK nm body m (nm st) k
  | x => k x st

/-- what comes behind the piece at a path; 'ms' are the rounds that are left of the loops around it, the outermost first -/
def kAt {β : Type} (T : Nat → Option TI) (m : Rounds) (rec : RecK β) (cfg : Cfg) (ty : Typed) : Code → List Bool → List Nat → (Ex → KS → Option β) → (Ex → KS → Option β)
  | .seq a b, x :: l, ms, k => bif x then kAt T m rec cfg ty b l ms k else kAt T m rec cfg ty a l ms (kSeq (codeK T m rec cfg ty b) k)
  | .cond _ a b, x :: l, ms, k => bif x then kAt T m rec cfg ty b l ms k else kAt T m rec cfg ty a l ms k
  | .block id c, _ :: l, ms, k => kAt T m rec cfg ty c l ms (kBlock id k)
  | .loop c, _ :: l, n :: ms, k => kAt T m rec cfg ty c l ms (kLoop (normK cfg c) (codeK T m rec cfg ty c) n k)
  | _, _, _, k => k

/-- the loop at a path of function f: 'left' rounds are left, the state at its head is 'st' -/
def loopAtH {β : Type} (P : Program) (c : KCfg) (n : Nat) (m : Rounds) (f : Nat) (hp0 : List KB) (path : List Bool) (ms : List Nat) (left : Nat) (st : KS) (k : AV → List KB → Nat → Option β) : Option β :=
  match codeAt (bodyOf P f) path with
  | .loop b => loopK (normK (c.of f) b) (codeK (tiOf P) m (evalK P c n) (c.of f) (c.ty f) b) left st (kAt (tiOf P) m (evalK P c n) (c.of f) (c.ty f) (bodyOf P f) path ms (kFn (tiOf P) (fnOf P f) hp0 k))
  | _ => none
abbrev loopAt {β : Type} (P : Program) (c : KCfg) (n : Nat) (m : Rounds) (f : Nat) (path : List Bool) (ms : List Nat) (left : Nat) (st : KS) (k : AV → List KB → Nat → Option β) : Option β := loopAtH P c n m f [] path ms left st k

end Go.Proofs.Ytjdciikfbinchaa.Abs
