/- The abstract machine over the translated code, and its soundness: part D. -/
import Derived.Test.YthbmlioknnhleaaAbsC
/- The abstract machine: a call that writes into one block alone, told where that block is all there is. -/
namespace Go.Proofs.Ythbmlioknnhleaa.Abs
open Go

/-- a block of numbers, as rows -/
structure NB where
  e : Nat
  sz : Nat
  k : IntKind
  n : Nat
  q : Nat → Nat → Int
def NB.blk (b : NB) : Blk := ⟨b.e, b.sz, (List.range b.n).map fun i => cellsI b.k b.sz (b.q i)⟩
def typB (T : Nat → Option TI) (b : Blk) : Option NB := (kindOf T b.e).bind fun (k, sz) => if b.sz = sz ∧ intRows k sz b.rows = true then some ⟨b.e, sz, k, b.rows.length, qOf b.rows⟩ else none
theorem typB_blk {T : Nat → Option TI} {b : Blk} {nb : NB} (h : typB T b = some nb) : nb.blk = b := by
  unfold typB at h
  simp only [Option.bind_eq_some_iff] at h
  obtain ⟨⟨k, sz⟩, _, h⟩ := h
  simp only at h
  split at h
  · rename_i hc
    cases h
    obtain ⟨e, s, rows⟩ := b
    simp only at hc
    simp only [NB.blk, hc.1, Blk.mk.injEq, true_and]
    apply List.ext_getElem?
    intro i
    rw [List.getElem?_map]
    by_cases hi : i < rows.length
    · rw [List.getElem?_range hi]
      simp only [Option.map_some]
      rw [cells_qOf hc.2 (List.getElem?_eq_getElem hi), List.getElem?_eq_getElem hi]
    · rw [List.getElem?_eq_none (l := List.range _) (by simp; omega), List.getElem?_eq_none (by omega)]
      rfl
  · cases h

/-- a call where one block is all there is gives this, and leaves the block so -/
def TellsM (P : Program) (f : Nat) (vs : List AV) (b : NB) (v : AV) (b' : NB) : Prop := ∃ (R : Rec) (c : Nat), RecSound P R ∧ R f vs [b.blk] = some (v, [b'.blk], c)

abbrev MTbl := Nat → Option (List AV → NB → Option (AV × NB))
def MTblOk (P : Program) (mt : MTbl) : Prop := ∀ f g, mt f = some g → ∀ vs b v b', g vs b = some (v, b') → TellsM P f vs b v b' ∧ allNoL vs = true ∧ b'.e = b.e ∧ b'.sz = b.sz ∧ b'.k = b.k ∧ b.n ≤ b'.n ∧ clean v = true

def mutOf (T : Nat → Option TI) (mt : MTbl) : Rec := fun f vs hp => match mt f with
  | some g => (oneRef (refsL vs)).bind fun i => (hp[i]?).bind fun b => if (topsL vs).isSome = true then (typB T b).bind fun nb => (g (renL i 0 vs) nb).map fun y => (shiftV i y.1, hp.set i y.2.blk, i) else none
  | none => none

theorem mutOf_some {T : Nat → Option TI} {mt : MTbl} {f : Nat} {vs : List AV} {hp : List Blk} {y : AV × List Blk × Nat} (h : mutOf T mt f vs hp = some y) :
    ∃ g i b nb v nb', mt f = some g ∧ oneRef (refsL vs) = some i ∧ hp[i]? = some b ∧ (topsL vs).isSome = true ∧ typB T b = some nb ∧ g (renL i 0 vs) nb = some (v, nb') ∧ y = (shiftV i v, hp.set i nb'.blk, i) := by
  unfold mutOf at h
  split at h
  · rename_i g hg
    simp only [Option.bind_eq_some_iff] at h
    obtain ⟨i, hi, b, hb, h⟩ := h
    split at h
    · rename_i ht
      simp only [Option.bind_eq_some_iff, Option.map_eq_some_iff] at h
      obtain ⟨nb, hnb, ⟨v, nb'⟩, hgv, rfl⟩ := h
      exact ⟨g, i, b, nb, v, nb', hg, hi, hb, ht, hnb, hgv, rfl⟩
    · cases h
  · cases h

theorem mutOf_keeps (T : Nat → Option TI) (mt : MTbl) : Keeps (mutOf T mt) := by
  intro f vs hp v hp' c h
  obtain ⟨g, i, b, nb, v', nb', _, _, hb, _, _, _, he⟩ := mutOf_some h
  cases he
  have := (List.getElem?_eq_some_iff.1 hb).1
  exact ⟨by simp, by omega, fun k hk => List.getElem?_set_ne (by omega)⟩

theorem refsL_elem : ∀ {l : List AV} {j : Nat} {x : AV}, l[j]? = some x → ∀ k ∈ refs x, k ∈ refsL l
  | [], j, x, h => by simp at h
  | v :: l, 0, x, h => by simp at h; subst h; intro k hk; simp [refsL, hk]
  | v :: l, j + 1, x, h => fun k hk => by have := refsL_elem (l := l) (j := j) (by simpa using h) k hk; simp [refsL, this]

theorem NB.cell_int {b : NB} {i j : Nat} {row : List AV} {x : AV} (h : b.blk.rows[i]? = some row) (hx : row[j]? = some x) : ∃ n, x = .int b.k n := by
  simp only [NB.blk, List.getElem?_map, Option.map_eq_some_iff] at h
  obtain ⟨a, _, rfl⟩ := h
  rw [cellsI_get] at hx
  split at hx
  · cases hx; exact ⟨_, rfl⟩
  · cases hx

theorem mutOf_sound {P : Program} {T : Nat → Option TI} {mt : MTbl} (ht : MTblOk P mt) : RecSound P (mutOf T mt) := by
  intro f vs hp v hp' i h hL
  obtain ⟨g, i0, b, nb, v1, nb', hg, hone, hb, htops, hnb, hgv, he⟩ := mutOf_some h
  cases he
  obtain ⟨⟨R, c0, hRS, hRun⟩, hL2, he1, he2, he3, he4, hcl⟩ := ht f g hg _ nb v1 nb' hgv
  obtain ⟨hfn, hcalls⟩ := hRS f _ _ v1 _ c0 hRun hL2
  refine ⟨hfn, fun M ρ β lo w xs hR hl hx => ?_⟩
  have hbl := typB_blk hnb
  obtain ⟨l, cc, hli, hat⟩ := hR.blk i b hb
  have hilt : i < hp.length := (List.getElem?_eq_some_iff.1 hb).1
  -- all but this block is frozen
  let M2 : Mem := fun g => if g = l.blk then none else w.heap[g]?
  let ρ2 : Rho := fun k => if k = 0 then some l else none
  have hsub : SubM M M2 := fun g o hg => by
    show (if g = l.blk then none else w.heap[g]?) = some o
    rw [if_neg (by rintro rfl; rw [hat.free] at hg; cases hg)]
    exact hR.mem g o hg
  have hR2 : Real M2 ρ2 (fun _ => none) [b] [] w.heap := by
    refine ⟨fun g o hg => ?_, fun k b' hk => ?_, fun k k' l1 l2 h1 h2 _ => ?_, fun k l1 h1 => ?_, fun d g cs hd => (by cases hd), fun d g hd => (by cases hd), fun d d' g hd => (by cases hd), fun d g k l1 hd => (by cases hd)⟩
    · have hg' : (if g = l.blk then none else w.heap[g]?) = some o := hg
      split at hg'
      · cases hg'
      · exact hg'
    · cases k with
      | zero =>
        simp at hk
        subst hk
        refine ⟨l, cc, rfl, ⟨by show (if l.blk = l.blk then none else _) = none; rw [if_pos rfl], hat.at_, hat.size, hat.pos, hat.room, hat.len, hat.one, fun i' row j x u h1 h2 h3 => ?_⟩⟩
        rw [← hbl] at h1
        obtain ⟨n, rfl⟩ := NB.cell_int h1 h2
        rw [hbl] at h1
        rw [(hat.rows i' row j _ u h1 h2 h3).sc' rfl]
        exact .int _ _
      | succ k => simp at hk
    · have h1' : (if k = 0 then some l else none) = some l1 := h1
      have h2' : (if k' = 0 then some l else none) = some l2 := h2
      split at h1'
      · split at h2'
        · omega
        · cases h2'
      · cases h1'
    · have h1' : (if k = 0 then some l else none) = some l1 := h1
      split at h1'
      · simp; omega
      · cases h1'
  have hargs : ∀ (j : Nat) (x : AV) (u : Value), (renL i 0 vs)[j]? = some x → xs[j]? = some u → VRel M2 ρ2 [nb.blk] x u := by
    intro j x u hxj huj
    rw [renL_get'] at hxj
    simp only [Option.map_eq_some_iff] at hxj
    obtain ⟨x0, hx0, rfl⟩ := hxj
    obtain ⟨ks0, hks0⟩ := Option.isSome_iff_exists.1 htops
    obtain ⟨ks, hks⟩ := topsL_get hks0 j x0 hx0
    have hv0 := hx j x0 u hx0 huj
    have hrr := ren_rel (ρ' := ρ2) (hp' := [nb.blk]) (k := i) (k' := 0) (by rw [hb, hbl]; rfl) (by rw [hli]; rfl) hv0 ks hks
    refine (hrr.2 fun a ha => ?_).mono hsub (Ext.refl _ _)
    rw [← hrr.1] at ha
    exact oneRef_all hone a (refsL_elem hx0 a ha)
  refine (hcalls M2 ρ2 (fun _ => none) [] w xs (by rw [hbl]; exact hR2) (by rw [hl, renL_len']) hargs).mono fun en w' ⟨u, he, M', ρ', hM, hE, hR', hv, hA⟩ => ?_
  have hlen : nb.blk.rows.length ≤ nb'.blk.rows.length := by simpa [NB.blk] using he4
  obtain ⟨b1, l1, hb1, hl1, hs1, _, hpl⟩ := hE 0 nb.blk l rfl rfl
  have hb1' : b1 = nb'.blk := by simpa using hb1.symm
  subst hb1'
  obtain ⟨l2, c2, hl2, hat2⟩ := hR'.blk 0 nb'.blk rfl
  rw [hl1] at hl2
  cases hl2
  have inM2 : ∀ g (hg : g < w.heap.size), g ≠ l.blk → M2 g = some w.heap[g] := fun g hg hne => by
    show (if g = l.blk then none else w.heap[g]?) = _
    rw [if_neg hne, Array.getElem?_eq_getElem hg]
  have hold : ∀ g, g < w.heap.size → g ≠ l.blk → w'.heap[g]? = w.heap[g]? := fun g hg hne => by
    rw [hR'.mem g _ (hM g _ (inM2 g hg hne)), Array.getElem?_eq_getElem hg]
  have hplace : l1.blk = l.blk ∨ w.heap.size ≤ l1.blk := by
    by_cases h1 : l1.blk = l.blk
    · exact .inl h1
    · by_cases h2 : l1.blk < w.heap.size
      · have := hM _ _ (inM2 _ h2 h1)
        rw [hat2.free] at this
        cases this
      · exact .inr (by omega)
  have hrows : RowsIn M (upd ρ i l1) (hp.set i nb'.blk) nb'.blk.sz nb'.blk.rows c2 := fun i' row j x u h1 h2 h3 => by
    obtain ⟨n, rfl⟩ := NB.cell_int h1 h2
    rw [(hat2.rows i' row j _ u h1 h2 h3).sc' rfl]
    exact .int _ _
  have hbsz : nb'.blk.sz = b.sz := by rw [← hbl]; exact he2
  have hblen : b.rows.length ≤ nb'.blk.rows.length := by rw [← hbl]; exact hlen
  have hsame : nb'.blk.rows.length = b.rows.length → l1 = l := fun h => hpl (by rw [hbl]; exact h)
  have hRn := hR.setBlk (H' := w'.heap) (b' := nb'.blk) (l' := l1) hb hli hbsz hblen hsame hA.size hold hplace hat2.at_ hat2.size hat2.room hat2.len hat2.one hrows
  refine ⟨u, he, M, upd ρ i l1, SubM.refl _, Ext.set hb hli hbsz hblen hsame, hRn, ?_, hA⟩
  refine shift_rel (d := i) (fun k b0 l0 hk hl0 => ?_) hv hcl
  have hk0 : k = 0 := by
    have := (List.getElem?_eq_some_iff.1 hk).1
    simp at this
    omega
  subst hk0
  have hb0 : b0 = nb'.blk := by simpa using hk.symm
  subst hb0
  rw [hl1] at hl0
  cases hl0
  exact ⟨nb'.blk, by simp [hilt], rfl, rfl, upd_same _ _ _⟩

/-- both tables -/
def oraAll (T : Nat → Option TI) (tbl : Tbl) (mt : MTbl) : Rec := fun f vs hp => match tbl f with
  | some _ => oraOf T tbl f vs hp
  | none => mutOf T mt f vs hp
theorem oraAll_keeps (T : Nat → Option TI) (tbl : Tbl) (mt : MTbl) : Keeps (oraAll T tbl mt) := by
  intro f vs hp v hp' c h
  unfold oraAll at h
  split at h
  · exact oraOf_keeps T tbl f vs hp v hp' c h
  · exact mutOf_keeps T mt f vs hp v hp' c h
theorem oraAll_sound {P : Program} {T : Nat → Option TI} {tbl : Tbl} {mt : MTbl} (h1 : TblOk P tbl) (h2 : MTblOk P mt) : RecSound P (oraAll T tbl mt) := by
  intro f vs hp v hp' c h hL
  unfold oraAll at h
  split at h
  · exact oraOf_sound h1 f vs hp v hp' c h hL
  · exact mutOf_sound h2 f vs hp v hp' c h hL

end Go.Proofs.Ythbmlioknnhleaa.Abs

/- The abstract machine run with continuations over typed blocks: what is not decided comes to the head. Definitions. -/
namespace Go.Proofs.Ythbmlioknnhleaa.Abs
open Go

/-! ### values that are one or the other, cell by cell -/
/-- x if c, else y: told by one value of one shape, where that can be done -/
def selV (c : Bool) (x y : AV) : AV :=
  match x, y with
  | .int k a, .int k' b => bif decide (k = k') then .int k (bif c then a else b) else bif c then .int k a else .int k' b
  | .bool a, .bool b => .bool (bif c then a else b)
  | .str a, .str b => .str (bif c then a else b)
  | .sl k r n t, .sl k' r' n' t' => .sl (bif c then k else k') (bif c then r else r') (bif c then n else n') (bif c then t else t')
  | x, y => bif c then x else y
def selL (c : Bool) : List AV → List AV → List AV
  | x :: xs, y :: ys => selV c x y :: selL c xs ys
  | xs, ys => bif c then xs else ys

theorem selV_eq (c : Bool) (x y : AV) : selV c x y = bif c then x else y := by
  unfold selV
  split
  · rename_i k a k' b
    by_cases h : k = k'
    · subst h; cases c <;> simp
    · cases c <;> simp [h]
  · cases c <;> rfl
  · cases c <;> rfl
  · cases c <;> rfl
  · rfl
theorem selL_eq (c : Bool) : ∀ (xs ys : List AV), selL c xs ys = bif c then xs else ys
  | x :: xs, y :: ys => by
    simp only [selL, selV_eq, selL_eq c xs ys]
    cases c <;> rfl
  | [], ys => by unfold selL; rfl
  | x :: xs, [] => by unfold selL; rfl

/-- the i-th of some numbers -/
def nthI : List Int → Nat → Int
  | [], _ => 0
  | x :: _, 0 => x
  | _ :: l, i + 1 => nthI l i
def intsOf (k : IntKind) : List AV → Option (List Int)
  | [] => some []
  | .int k' n :: l => bif decide (k' = k) then (intsOf k l).map (n :: ·) else none
  | _ => none
/-- all cells, where they are numbers of one kind -/
def intsAll : List AV → Option (IntKind × List Int)
  | .int k n :: l => (intsOf k l).map fun ns => (k, n :: ns)
  | _ => none

theorem nthI_get : ∀ {l : List Int} {i : Nat}, i < l.length → l[i]? = some (nthI l i)
  | x :: l, 0, _ => rfl
  | x :: l, i + 1, h => by simpa [nthI] using nthI_get (l := l) (i := i) (by simpa using h)
theorem intsOf_eq {k : IntKind} : ∀ {l : List AV} {ns : List Int}, intsOf k l = some ns → l = ns.map (.int k ·)
  | [], ns, h => by cases h; rfl
  | x :: l, ns, h => by
    cases x <;> simp only [intsOf, reduceCtorEq] at h
    rename_i k' n
    by_cases hk : k' = k
    · subst hk
      simp only [decide_true, cond_true, Option.map_eq_some_iff] at h
      obtain ⟨ns', h', rfl⟩ := h
      rw [intsOf_eq h']
      rfl
    · simp [hk] at h
theorem intsAll_eq {k : IntKind} {l : List AV} {ns : List Int} (h : intsAll l = some (k, ns)) : l = ns.map (.int k ·) := by
  unfold intsAll at h
  split at h
  · simp only [Option.map_eq_some_iff] at h
    obtain ⟨ns', h', he⟩ := h
    cases he
    rw [intsOf_eq h']
    rfl
  · cases h

/-- f i, f (i + 1), .., n of them -/
def intsFrom (f : Nat → Int) : Nat → Nat → List Int
  | _, 0 => []
  | i, n + 1 => f i :: intsFrom f (i + 1) n
theorem intsFrom_len (f : Nat → Int) : ∀ (n i : Nat), (intsFrom f i n).length = n
  | 0, i => rfl
  | n + 1, i => by simp [intsFrom, intsFrom_len f n (i + 1)]
theorem nthI_intsFrom (f : Nat → Int) : ∀ (n i j : Nat), j < n → nthI (intsFrom f i n) j = f (i + j)
  | 0, i, j, h => by omega
  | n + 1, i, 0, h => rfl
  | n + 1, i, j + 1, h => by
    simp only [intsFrom, nthI]
    rw [nthI_intsFrom f n (i + 1) j (by omega), show i + 1 + j = i + (j + 1) by omega]
/-- are all of them whole numbers? -/
def allLK : List LK → Nat → Bool
  | [], 0 => true
  | .int :: l, n + 1 => allLK l n
  | _, _ => false
theorem eqCells_ints {k : IntKind} : ∀ {ls : List LK} {xs ys : List Int}, allLK ls xs.length = true → ys.length = xs.length → eqCells ls (xs.map (.int k ·)) (ys.map (.int k ·)) = some (decide (xs = ys))
  | [], [], [], _, _ => rfl
  | .int :: ls, x :: xs, y :: ys, h, hl => by
    have ih := eqCells_ints (k := k) (ls := ls) (xs := xs) (ys := ys) h (by simpa using hl)
    simp only [List.map_cons, eqCells, if_true, ih, Option.map_some, List.cons.injEq, Bool.decide_and]
  | [], x :: xs, _, h, _ => by simp [allLK] at h
  | [], [], y :: ys, _, hl => by simp at hl
  | .int :: ls, [], _, h, _ => by simp [allLK] at h
  | .int :: ls, x :: xs, [], _, hl => by simp at hl
  | .bool :: ls, xs, _, h, _ => by cases xs <;> simp [allLK] at h
  | .str :: ls, xs, _, h, _ => by cases xs <;> simp [allLK] at h

/-- another value in the c-th cell -/
def setC (c : Nat) (v : AV) : Nat → List AV → List AV
  | _, [] => []
  | j, x :: l => selV (c == j) v x :: setC c v (j + 1) l
theorem setC_get (c : Nat) (v : AV) : ∀ (l : List AV) (j i : Nat), (setC c v j l)[i]? = (l[i]?).map fun x => bif c == j + i then v else x
  | [], j, i => by simp [setC]
  | x :: l, j, 0 => by simp [setC, selV_eq]
  | x :: l, j, i + 1 => by simp [setC, setC_get c v l (j + 1) i, show j + 1 + i = j + (i + 1) by omega]
theorem setC_eq (c : Nat) (v : AV) (l : List AV) : setC c v 0 l = l.set c v := by
  apply List.ext_getElem?
  intro i
  rw [setC_get, List.getElem?_set, Nat.zero_add]
  by_cases h : c = i
  · subst h
    by_cases hl : c < l.length
    · simp [hl]
    · simp [hl]
  · have : (c == i) = false := by simpa using h
    simp [h, this]

abbrev in64 (n : Int) : Prop := -9223372036854775808 ≤ n ∧ n ≤ 9223372036854775807
abbrev inB (n : Int) : Prop := 0 ≤ n ∧ n ≤ 255

/-! ### blocks -/
inductive KR where
  | lst (l : List (List AV))
  | ints (k : IntKind) (sz n : Nat) (q : Nat → Nat → Int)
  | fn (n : Nat) (f : Nat → List AV)
  deriving Inhabited
def KR.list : KR → List (List AV)
  | .lst l => l
  | .ints k sz n q => (List.range n).map fun i => cellsI k sz (q i)
  | .fn n f => (List.range n).map f
def KR.len : KR → Nat
  | .lst l => l.length
  | .ints _ _ n _ => n
  | .fn n _ => n
structure KB where
  e : Nat
  sz : Nat
  r : KR
  deriving Inhabited
def KB.abs (b : KB) : Blk := ⟨b.e, b.sz, b.r.list⟩
def absH (hp : List KB) : List Blk := hp.map KB.abs
structure KS where
  env : List (Nat × AV)
  lo : List (Nat × List AV)
  hp : List KB
  n0 : Nat
  cl : Bool
  deriving Inhabited
def KS.abs (s : KS) : St := ⟨s.env, s.lo, absH s.hp, s.n0, s.cl⟩
structure KE where
  v : AV := .undef
  lo : Option (Nat × List AV) := none
  hp : Option (List KB) := none
  cl : Bool := true
  low : Nat := 0
def KE.abs (e : KE) : Eff := { v := e.v, lo := e.lo, hp := e.hp.map absH, cl := e.cl, low := e.low }
/-- is it a new variable's pointer in its own slot? -/
def selfK (dst : Option Nat) (v : AV) : Option Nat := match v with
  | .lptr d c => match dst with
    | some d' => bif d == d' then (match c with | 0 => some d | _ => none) else none
    | none => none
  | _ => none
def noStaleK (dst : Option Nat) (e : KE) (env : List (Nat × AV)) : Bool := match selfK dst e.v with
  | some d => env.all (fun p => p.1 == d || !isL d (get env p.1))
  | none => true
theorem noStaleK_eq (dst : Option Nat) (e : KE) (env : List (Nat × AV)) : noStaleK dst e env = noStale dst e.abs env := by
  unfold noStaleK noStale selfK
  obtain ⟨v, lo, hp, cl, low⟩ := e
  cases v with
  | lptr d c =>
    cases dst with
    | none => cases c <;> rfl
    | some d' => cases h : d == d' <;> cases c <;> simp [KE.abs, h]
  | _ => cases dst <;> rfl
def KS.app (st : KS) (dst : Option Nat) (e : KE) : KS :=
  { env := putE (match selfK dst e.v with | some d => clr d st.env | none => st.env) dst e.v
    lo := putL st.lo e.lo, hp := e.hp.getD st.hp, n0 := st.n0, cl := st.cl && e.cl }

/-- the i-th of some rows of one shape -/
def rowsAt : List (List AV) → Nat → Nat → List AV
  | [], _, _ => []
  | [x], _, _ => x
  | x :: l, j, i => selL (i == j) x (rowsAt l (j + 1) i)
def setRows (i : Nat) (row : List AV) : Nat → List (List AV) → List (List AV)
  | _, [] => []
  | j, x :: l => selL (i == j) row x :: setRows i row (j + 1) l
/-- another row in the i-th place -/
def KR.set (r : KR) (i : Nat) (row : List AV) : KR :=
  match r with
  | .lst l => .lst (setRows i row 0 l)
  | .ints k sz n q => match intsOf k row with
    | some ns => bif decide (ns.length = sz) then .ints k sz n (fun a c => bif a == i then nthI ns c else q a c) else .lst (((List.range n).map fun i => cellsI k sz (q i)).set i row)
    | none => .lst (((List.range n).map fun i => cellsI k sz (q i)).set i row)
  | .fn n f => .fn n (fun a => selL (a == i) row (f a))
def intRowsOf (k : IntKind) (sz : Nat) : List (List AV) → Option (List (List Int))
  | [] => some []
  | row :: l => match intsOf k row, intRowsOf k sz l with
    | some ns, some nss => bif decide (ns.length = sz) then some (ns :: nss) else none
    | _, _ => none
def nthR : List (List Int) → Nat → Nat → Int
  | [], _, _ => 0
  | [x], _, c => nthI x c
  | x :: _, 0, c => nthI x c
  | _ :: l, i + 1, c => nthR l i c
def KR.app (a b : KR) : KR :=
  match a, b with
  | .lst l, .lst m => .lst (l ++ m)
  | .ints k sz n q, .lst m => match intRowsOf k sz m with
    | some nss => .ints k sz (n + nss.length) (fun a c => bif decide (a < n) then q a c else nthR nss (a - n) c)
    | none => .lst ((KR.ints k sz n q).list ++ m)
  | .ints k sz n q, .ints k' sz' n' q' => bif decide (k = k' ∧ sz = sz') then .ints k sz (n + n') (fun a c => bif decide (a < n) then q a c else q' (a - n) c) else .lst ((KR.ints k sz n q).list ++ (KR.ints k' sz' n' q').list)
  | .fn n f, .lst [row] => .fn (n + 1) (fun a => selL (decide (a < n)) (f a) row)
  | a, b => .lst (a.list ++ b.list)
/-- rows, told by functions -/
def KR.ty (zero : List AV) (m : List (List AV)) : KR :=
  match intsAll zero with
  | some (k, z) => match intRowsOf k z.length m with
    | some nss => .ints k z.length nss.length (nthR nss)
    | none => .lst m
  | none => match m with
    | [] => .fn 0 (fun _ => [])
    | [row] => .fn 1 (fun _ => row)
    | m => .lst m
def KR.made (typed : Bool) (n : Nat) (zero : List AV) : KR :=
  match typed with
  | true => match intsAll zero with
    | some (k, z) => .ints k z.length n (fun _ c => nthI z c)
    | none => .fn n (fun _ => zero)
  | false => .lst (List.replicate n zero)
def KR.opt (typed : Bool) (zero : List AV) (m : List (List AV)) : KR := match typed with
  | true => KR.ty zero m
  | false => .lst m
def KR.cut (r : KR) (a n : Nat) : KR :=
  match r with
  | .lst l => .lst ((l.drop a).take n)
  | .ints k sz _ q => .ints k sz n (shiftF a q)
  | .fn _ f => .fn n (shiftF a f)

/-- rows written over the rows from the n-th on -/
def KR.over (r : KR) (n : Nat) (new : KR) : KR :=
  match r, new with
  | .ints k sz m q, .ints k' sz' m' q' => bif decide (k = k' ∧ sz = sz') then .ints k sz m (fun a c => bif decide (n ≤ a) && decide (a < n + m') then q' (a - n) c else q a c) else .lst ((KR.ints k sz m q).list.take n ++ ((KR.ints k' sz' m' q').list ++ (KR.ints k sz m q).list.drop (n + m')))
  | r, new => .lst (r.list.take n ++ (new.list ++ r.list.drop (n + new.len)))
/-- the same row many times, told as the rows of r are -/
def KR.madeAs (r : KR) (n : Nat) (zero : List AV) : KR := match r with
  | .ints _ _ _ _ => KR.made true n zero
  | _ => .lst (List.replicate n zero)

def storeRowK (v : AV) (row : List AV) (c : Nat) : List AV :=
  match v with
  | .agg cs => splice row c cs
  | x => setC c x 0 row

/-- another value in the c-th cell of the i-th row -/
def KR.put (r : KR) (i c : Nat) (v : AV) (row : List AV) : KR :=
  match r, v with
  | .ints k sz n q, .int k' x => bif decide (k' = k) then .ints k sz n (fun a d => bif (d == c) && (a == i) then x else q a d) else (KR.ints k sz n q).set i (storeRowK (.int k' x) row c)
  | r, v => r.set i (storeRowK v row c)
def byteAt (s : ByteArray) (i : Nat) : Int := ((s.data[i]?).getD 0).toNat

/-- a string's bytes, told by a function -/
def strRows (s : ByteArray) : KR := .ints .u8 1 s.size fun i _ => byteAt s i

/-- rows put behind a slice that has none: 'typed': they are told by functions -/
def onto (typed : Bool) (zero : List AV) (new : KR) : KR := match new with
  | .lst m => KR.opt typed zero m
  | r => r
def bytesK (r : KR) : Option ByteArray :=
  match r with
  | .ints .u8 1 n q => some ⟨((List.range n).map fun i => UInt8.ofNat (q i 0).toNat).toArray⟩
  | .lst l => (bytesOf l).map fun b => ⟨b.toArray⟩
  | _ => none

/-- for a function: the slots whose new slices are told by functions -/
abbrev Typed := List Nat

/-- what is known now of a slot that holds a boolean -/
def learn (d : Nat) (b : Bool) : List (Nat × AV) → List (Nat × AV)
  | [] => []
  | (t, v) :: l => bif t == d then (t, .bool b) :: l else (t, v) :: learn d b l

def footK (o : Oper) (st : KS) (e : KE) : Foot :=
  { act := e.hp.isSome
    rd := (tmpVs st.env o.op.operands.toList).flatMap locL ++ locL e.v ++ dstL st.env o.dst ++ (tmpVs st.env (looksH o.op)).flatMap locH ++ (bif isCallFn o.op then [.ge 0] else [])
    wr := (match e.lo with | some (d, _) => [.lo d] | none => []) ++ (match e.v, o.dst with | .lptr d _, some d' => bif d == d' then [.lo d] else [] | _, _ => []) ++
      (bif e.hp.isSome then (bif isCallFn o.op then [.ge e.low] else .ge st.hp.length :: (tmpVs st.env (writesH o.op)).flatMap locH) else []) }

def normK0 (cfg : Cfg) (c : Code) (st : KS) : KS :=
  match firstRegion c with
  | some i => match cfg.keep.lookup i with
    | some (ks, ls) => { st with env := pickE st.env ks, lo := pickL st.lo ls }
    | none => st
  | none => st

/-- no names of blocks in these rows -/
def KR.bare : KR → Bool
  | .ints _ _ _ _ => true
  | r => bareRows r.list
def valsK (st : KS) : List AV := st.env.map (·.2) ++ st.lo.flatMap (·.2)
def gcK (st : KS) : KS :=
  bif decide (st.n0 = 0) then
    match oneRef (refsL (valsK st)), topsL (valsK st) with
    | some k, some _ => match st.hp[k]? with
      | some b => bif b.r.bare then { st with env := renE k st.env, lo := renLo k st.lo, hp := [b] } else st
      | none => st
    | _, _ => st
  else st
def normK (cfg : Cfg) (c : Code) (st : KS) : KS :=
  match firstRegion c with
  | some i => bif cfg.gc.contains i then gcK (normK0 cfg c st) else normK0 cfg c st
  | none => normK0 cfg c st

/-- rounds: how many of each loop, told by its first region -/
abbrev Rounds := Nat → Nat
def roundsOf (m : Rounds) (c : Code) : Nat := match firstRegion c with
  | some i => m i
  | none => 0

/-- an answer that may hang on conditions: each comes to the head of a run -/
inductive Ans where
  | is (y : Bool × AV × List KB)
  | cut (c : Bool) (x y : Ans)
def Ans.val : Ans → Bool × AV × List KB
  | .is y => y
  | .cut c x y => bif c then x.val else y.val
def Ans.to {β : Type} (k : Bool × AV × List KB → Option β) : Ans → Option β
  | .is y => k y
  | .cut c x y => bif c then x.to k else y.to k
theorem Ans.to_val {β : Type} (k : Bool × AV × List KB → Option β) : ∀ a : Ans, a.to k = k a.val
  | .is y => rfl
  | .cut c x y => by cases c <;> simp [Ans.to, Ans.val, Ans.to_val k]
/-- what is told of a function: under a condition, the value and the new blocks -/
abbrev KTbl := Nat → Option (List AV → Option Ans)
def tblOf (kt : KTbl) : Tbl := fun f => (kt f).map fun g vs => (g vs).bind fun a => bif a.val.1 then some (a.val.2.1, absH a.val.2.2) else none

def canonI (n sz : Nat) (q : Nat → Nat → Int) : Nat → Nat → Int := fun i j => bif decide (i < n) && decide (j < sz) then q i j else 0

def shiftR (d : Nat) : KR → KR
  | .lst l => .lst (l.map (shiftVs d))
  | .ints k sz n q => .ints k sz n q
  | .fn n f => .fn n (fun i => shiftVs d (f i))
def shiftKB (d : Nat) (b : KB) : KB := ⟨b.e, b.sz, shiftR d b.r⟩
/-- what is told of functions that write into one block of numbers -/
abbrev KMT := Nat → Option (List AV → NB → Option (Bool × AV × NB))
def mtOf (mt : KMT) : MTbl := fun f => (mt f).map fun g vs b => (g vs b).bind fun y => bif y.1 then some y.2 else none
def KB.ofNB (b : NB) : KB := ⟨b.e, b.sz, .ints b.k b.sz b.n b.q⟩
def nbOf (T : Nat → Option TI) (b : KB) : Option NB := match b.r with
  | .ints k sz n q => match kindOf T b.e with
    | some (k', sz') => bif decide (k = k' ∧ sz = sz' ∧ b.sz = sz) then some ⟨b.e, sz, k, n, canonI n sz q⟩ else none
    | none => none
  | _ => none

/-- the settings: base settings, typed slots, rounds of loops in functions that are run in their place -/
structure KCfg where
  of : Nat → Cfg
  ty : Nat → Typed
  tbl : KTbl
  mtb : KMT
def KCfg.cfgs (P : Program) (c : KCfg) : Cfgs := ⟨c.of, oraAll (tiOf P) (tblOf c.tbl) (mtOf c.mtb)⟩

/-- the piece of code at a path: left or right, into a block or a loop -/
def codeAt : Code → List Bool → Code
  | c, [] => c
  | .seq a b, x :: l => bif x then codeAt b l else codeAt a l
  | .cond _ a b, x :: l => bif x then codeAt b l else codeAt a l
  | .block _ c, _ :: l => codeAt c l
  | .loop c, _ :: l => codeAt c l
  | c, _ :: _ => c

def bodyOf (P : Program) (f : Nat) : Code := ((P.funcs[f]?).bind (·.body)).getD .skip
def fnOf (P : Program) (f : Nat) : Func := (P.funcs[f]?).getD default

abbrev done : AV → List KB → Nat → Option (AV × List KB × Bool) := fun v hp _ => some (v, hp, true)


-- CONTROL
def rowK {β : Type} (r : KR) (i : Nat) (k : List AV → Option β) : Option β :=
  match r with
  | .lst l => bif decide (i < l.length) then k (rowsAt l 0 i) else none
  | .ints kk sz n q => bif decide (i < n) then k (cellsI kk sz (q i)) else none
  | .fn n f => bif decide (i < n) then k (f i) else none
section
variable {β : Type}

def freshK (hp : List KB) (i t : Nat) (k : KB → Option β) : Option β := (hp[i]?).bind fun b => bif t == b.r.len then k b else none

def binK (op : BinOp) (kk : IntKind) (x y : Int) (k : AV → Option β) : Option β :=
  match op with
  | .quo => bif decide (y = 0) then none else k (.int kk (kk.wrap (x.tdiv y)))
  | .rem => bif decide (y = 0) then none else k (.int kk (x.tmod y))
  | op => (binI op kk x y).bind k

def binAK (ti : Option TI) (op : BinOp) (x y : AV) (k : AV → Option β) : Option β :=
  match x, y with
  | .bool a, .bool b => ti.bind fun t => match t.d, op with
    | .bool, .eql => k (.bool (a == b))
    | .bool, .neq => k (.bool (!(a == b)))
    | _, _ => none
  | .vi _ _ n q, .nilsl => ti.bind fun t => match t.d, op with
    | .slice _, .eql => bif decide (n = 0 ∧ ¬ q 0 0 = 0) then none else k (.bool false)
    | .slice _, .neq => bif decide (n = 0 ∧ ¬ q 0 0 = 0) then none else k (.bool true)
    | _, _ => none
  | .int ka a, .int kb b =>
    match op with
    | .shl => bif decide (b < 0) then none else k (.int ka (ka.wrap (a * 2 ^ (min b.toNat ka.bits))))
    | .shr => bif decide (b < 0) then none else k (.int ka (a.fdiv (2 ^ (min b.toNat ka.bits))))
    | op => bif decide (ka = kb) then binK op ka a b k else none
  | .str a, .str b =>
    match op with
    | .add => bif decide (a.size + b.size ≤ most) then k (.str (a ++ b)) else none
    | op => (binS op a b).bind k
  | .agg a, .agg b =>
    match intsAll a, intsAll b, ti.bind (·.leaf) with
    | some (ka, xs), some (kb, ys), some ls =>
      bif decide (ka = kb ∧ ys.length = xs.length) && allLK ls xs.length then
        match op with
        | .eql => k (.bool (decide (xs = ys)))
        | .neq => k (.bool (!decide (xs = ys)))
        | _ => none
      else none
    | _, _, _ => (binA (ti.bind (·.leaf)) op (.agg a) (.agg b)).bind k
  | x, y => (binT ti op x y).bind k

def binHK (ti : Option TI) (hp : List KB) (op : BinOp) (x y : AV) (k : AV → Option β) : Option β :=
  match x, y with
  | .sl q _ _ t, .nilsl => freshK hp q t fun _ => ti.bind fun d => match d.d, op with
    | .slice _, .eql => k (.bool false)
    | .slice _, .neq => k (.bool true)
    | _, _ => none
  | x, y => binAK ti op x y k

variable (T : Nat → Option TI)

def rowAtK (lo : List (Nat × List AV)) (hp : List KB) (p : AV) (k : List AV → Nat → Option β) : Option β :=
  match p with
  | .lptr d c => (lo.lookup d).bind fun r => k r c
  | .vp r c => k r c
  | .ptr i r c t => freshK hp i t fun b => rowK b.r r fun x => k x c
  | _ => none

def cellK (cs : List AV) (off : Nat) (k : AV → Option β) : Option β :=
  match intsAll cs with
  | some (kk, ns) => bif decide (off < ns.length) then k (.int kk (nthI ns off)) else none
  | none => (cs[off]?).bind k

def partK (ti : TI) (cs : List AV) (off : Nat) (k : AV → Option β) : Option β :=
  bif agg? ti.d then (bif decide (off + ti.size ≤ cs.length) then k (.agg ((cs.drop off).take ti.size)) else none)
  else cellK cs off k

def loadK (lo : List (Nat × List AV)) (hp : List KB) (ty : Nat) (p : AV) (k : AV → Option β) : Option β :=
  rowAtK lo hp p fun row c => (T ty).bind fun ti => partK ti row c k

def storeK (lo : List (Nat × List AV)) (hp : List KB) (n0 : Nat) (ty : Nat) (p v : AV) (k : KE → Option β) : Option β :=
  (T ty).bind fun ti =>
    bif v.noL && decide (v.cells.length = ti.size) then
      match p with
      | .lptr d c => (lo.lookup d).bind fun row => bif decide (c + ti.size ≤ row.length) then k { lo := some (d, storeRowK v row c) } else none
      | .ptr i r c t => freshK hp i t fun b => rowK b.r r fun row =>
          bif decide (c + ti.size ≤ row.length) then k { hp := some (hp.set i { b with r := b.r.put r c v row }), cl := decide (n0 ≤ i) } else none
      | _ => none
    else none

def varK (esc : Bool) (hp : List KB) (dst : Option Nat) (ty : Nat) (cs : List AV) (k : KE → Option β) : Option β :=
  match dst with
  | some d => bif esc then (bif decide (0 < cs.length) then k { v := .ptr hp.length 0 0 1, hp := some (hp ++ [⟨ty, cs.length, .lst [cs]⟩]) } else none)
    else k { v := .lptr d 0, lo := some (d, cs) }
  | none => none

def indexAddrK (hp : List KB) (ty : Nat) (x i : AV) (k : AV → Option β) : Option β :=
  match i with
  | .int _ i =>
    match x with
    | .sl q r n t => freshK hp q t fun b => (elemT T ty).bind fun e => bif decide (e.2.size = b.sz) then bif decide (0 ≤ i ∧ i < n) then bif decide (r + n ≤ b.r.len) then k (.ptr q (r + i.toNat) 0 t) else none else none else none
    | .ssl q r c n t => freshK hp q t fun _ => (elemT T ty).bind fun e => bif decide (e.2.size = 1) then bif decide (0 ≤ i ∧ i < n) then k (.ptr q r (c + i.toNat) t) else none else none
    | .vs sz rows => (elemT T ty).bind fun e => bif decide (e.2.size = sz) then bif decide (0 ≤ i ∧ i < rows.length) then k (.vp (rowsAt rows 0 i.toNat) 0) else none else none
    | .vf sz n f => (elemT T ty).bind fun e => bif decide (e.2.size = sz) then bif decide (0 ≤ i ∧ i < n) then k (.vp (f i.toNat) 0) else none else none
    | .vi kk sz n q => (elemT T ty).bind fun e => bif decide (e.2.size = sz) then bif decide (0 ≤ i ∧ i < n) then k (.vp (cellsI kk sz (q i.toNat)) 0) else none else none
    | .vm n m q => (elemT T ty).bind fun e => bif decide (e.2.size = 1) then bif decide (0 ≤ i ∧ i < n) then k (.vp [.vi .i64 1 (m i.toNat) fun j _ => q i.toNat j] 0) else none else none
    | .lptr d c => (arrT T ty).bind fun e => bif decide (0 ≤ i ∧ i < e.1) then k (.lptr d (c + i.toNat * e.2.size)) else none
    | .vp r c => (arrT T ty).bind fun e => bif decide (0 ≤ i ∧ i < e.1) then k (.vp r (c + i.toNat * e.2.size)) else none
    | .ptr q r c t => freshK hp q t fun _ => (arrT T ty).bind fun e => bif decide (0 ≤ i ∧ i < e.1) then k (.ptr q r (c + i.toNat * e.2.size) t) else none
    | _ => none
  | _ => none

def indexK (ty : Nat) (x i : AV) (k : AV → Option β) : Option β :=
  match i with
  | .int _ i =>
    match x with
    | .str s => bif isStr T ty then bif decide (0 ≤ i ∧ i < s.size) then k (.int .u8 (byteAt s i.toNat)) else none else none
    | .agg cs => (arrT T ty).bind fun e => bif decide (0 ≤ i ∧ i < e.1) then partK e.2 cs (i.toNat * e.2.size) k else none
    | _ => none
  | _ => none

def cutK (n : Nat) (lo hi : Option Int) (k : Nat → Nat → Option β) : Option β :=
  bif decide (0 ≤ lo.getD 0 ∧ lo.getD 0 ≤ hi.getD n ∧ hi.getD n ≤ n) then k (lo.getD 0).toNat (hi.getD n).toNat else none

def sliceK (hp : List KB) (ty : Nat) (x : AV) (lo hi mx : Option Int) (k : AV → Option β) : Option β :=
  match mx with
  | none =>
    match x with
    | .str s => bif isStr T ty then cutK s.size lo hi fun l h => k (.str (s.extract l h)) else none
    | .nilsl => (elemT T ty).bind fun _ => cutK 0 lo hi fun _ _ => k .nilsl
    | .esl => (elemT T ty).bind fun _ => cutK 0 lo hi fun _ _ => k .esl
    | .sl q r n t => (elemT T ty).bind fun e => freshK hp q t fun b => bif decide (e.2.size = b.sz) then bif decide (r + n ≤ b.r.len) then cutK n lo hi fun l h => k (.sl q (r + l) (h - l) t) else none else none
    | .vs sz rows => (elemT T ty).bind fun e => bif decide (e.2.size = sz) then cutK rows.length lo hi fun l h => k (.vs sz ((rows.drop l).take (h - l))) else none
    | .vf sz n f => (elemT T ty).bind fun e => bif decide (e.2.size = sz) then cutK n lo hi fun l h => k (.vf sz (h - l) (fun i => f (l + i))) else none
    | .vi kk sz n q => (elemT T ty).bind fun e => bif decide (e.2.size = sz) then cutK n lo hi fun l h => k (.vi kk sz (h - l) (shiftF l q)) else none
    | .ptr q r c t => (arrT T ty).bind fun e => freshK hp q t fun b => bif decide (e.2.size = 1) then bif decide (r < b.r.len ∧ c + e.1 ≤ b.sz) then cutK e.1 lo hi fun l h => k (.ssl q r (c + l) (h - l) t) else none else none
    | _ => none
  | some m =>
    bif decide (m = 0 ∧ lo.getD 0 = 0 ∧ hi = some 0) then
      match x with
      | .nilsl => (elemT T ty).bind fun _ => k .nilsl
      | .esl => (elemT T ty).bind fun _ => k .esl
      | .sl q _ _ t => (elemT T ty).bind fun _ => freshK hp q t fun _ => k .esl
      | .vf _ _ _ => (elemT T ty).bind fun _ => k .esl
      | .vi _ _ _ _ => (elemT T ty).bind fun _ => k .esl
      | _ => none
    else none

def lenK (hp : List KB) (ty : Nat) (x : AV) (k : AV → Option β) : Option β :=
  match x with
  | .sl q _ n t => (elemT T ty).bind fun _ => freshK hp q t fun _ => k (.int .i64 n)
  | .ssl q _ _ n t => (elemT T ty).bind fun _ => freshK hp q t fun _ => k (.int .i64 n)
  | x => (lenA T [] ty x).bind k

def rowsK (hp : List KB) (size : Nat) (x : AV) (k : KR → Option β) : Option β :=
  match x with
  | .sl q r n t => freshK hp q t fun b => bif decide (b.sz = size) then bif decide (r + n ≤ b.r.len) then k (b.r.cut r n) else none else none
  | .nilsl => k (.lst [])
  | .esl => k (.lst [])
  | .vs sz rows => bif decide (sz = size) then k (.lst rows) else none
  | .vf sz n f => bif decide (sz = size) then k (.fn n f) else none
  | .vi kk sz n q => bif decide (sz = size) then k (.ints kk sz n q) else none
  | .str s => bif decide (size = 1) then k (strRows s) else none
  | _ => none

def appendK (ov typed : Bool) (hp : List KB) (n0 : Nat) (e : Nat) (te : TI) (s : AV) (new : KR) (k : KE → Option β) : Option β :=
  match s with
  | .sl q 0 n t => freshK hp q t fun b =>
      bif decide (b.e = e ∧ b.sz = te.size) then
        bif decide (n + new.len ≤ most) then
          bif decide (n = t) then k { v := .sl q 0 (n + new.len) (t + new.len), hp := some (hp.set q { b with r := b.r.app new }), cl := decide (n0 ≤ q) }
          else match ov with
            | true => bif decide (n + new.len ≤ t) then bif decide (n + new.len ≤ b.r.len) then k { v := .sl q 0 (n + new.len) t, hp := some (hp.set q { b with r := b.r.over n new }), cl := decide (n0 ≤ q) } else none
              else none
            | false => none
        else none
      else none
  | .nilsl => bif decide (new.len = 0) then k { v := .nilsl } else bif decide (new.len ≤ most) then k { v := .sl hp.length 0 new.len new.len, hp := some (hp ++ [⟨e, te.size, onto typed te.zero new⟩]) } else none
  | .esl => bif decide (new.len = 0) then k { v := .esl } else bif decide (new.len ≤ most) then k { v := .sl hp.length 0 new.len new.len, hp := some (hp ++ [⟨e, te.size, onto typed te.zero new⟩]) } else none
  | _ => none

def clearK (hp : List KB) (n0 : Nat) (zero : List AV) (x : AV) (k : KE → Option β) : Option β :=
  match x with
  | .nilsl => k { v := .tup [] }
  | .esl => k { v := .tup [] }
  | .sl q r n t => freshK hp q t fun b => bif decide (r + n ≤ b.r.len) then bif decide (zero.length = b.sz) then
      k { v := .tup [], hp := some (hp.set q { b with r := b.r.over r (b.r.madeAs n zero) }), cl := decide (n0 ≤ q) } else none else none
  | _ => none

def builtinK (ov typed : Bool) (st : KS) (b : Builtin) (tys : List Nat) (vs : List AV) (k : KE → Option β) : Option β :=
  match b, tys, vs with
  | .len, ty :: _, x :: _ => lenK T st.hp ty x fun v => k { v }
  | .cap, ty :: _, .nilsl :: _ => (elemT T ty).bind fun _ => k { v := .int .i64 0 }
  | .append, [ty, ty2], [s, x] =>
    (elemT T ty).bind fun e =>
      bif decide (e.2.bytes ≤ 1024 ∧ 0 < e.2.size) then
        bif isInt T ty2 then
          (match x with
           | .int .i64 n => bif decide (0 ≤ n ∧ n ≤ most) then appendK ov typed st.hp st.n0 e.1 e.2 s (KR.made typed n.toNat e.2.zero) k else none
           | _ => none)
        else bif isSrc T ty2 then rowsK st.hp e.2.size x fun new => appendK ov typed st.hp st.n0 e.1 e.2 s new k else none
      else none
  | .clear, [ty], [x] => (elemT T ty).bind fun e => clearK st.hp st.n0 e.2.zero x k
  | .max, _, .int kk n :: l => (foldI (fun x y => cond (decide (y > x)) y x) kk n l).bind fun v => k { v }
  | .min, _, .int kk n :: l => (foldI (fun x y => cond (decide (y < x)) y x) kk n l).bind fun v => k { v }
  | _, _, _ => none

def pickK (c a b : AV) (k : AV → Option β) : Option β :=
  match c with
  | .bool t => k (selV t a b)
  | _ => none

def convK (hp : List KB) (src dst : Nat) (x : AV) (k : AV → Option β) : Option β :=
  (T src).bind fun _ => (T dst).bind fun ti =>
    match ti.d with
    | .int kk => (match x with
      | .int _ n => k (.int kk (kk.wrap n))
      | _ => none)
    | .str => (match x with
      | .str s => k (.str s)
      | .sl q r n t => bif isBytes T src then rowsK hp 1 (.sl q r n t) fun rows => (bytesK rows).bind fun s => k (.str s) else none
      | _ => none)
    | _ => none

/-- calls, with what comes behind -/
abbrev RecK (β : Type) := Nat → List AV → List KB → (AV → List KB → Nat → Option β) → Option β

def callK (rec : RecK β) (hp : List KB) (n0 f : Nat) (vs : List AV) (k : KE → Option β) : Option β :=
  bif allNoL vs then rec f vs hp fun v hp c => k { v, hp := some hp, cl := decide (n0 ≤ c), low := c } else none

def effK (rec : RecK β) (cfg : Cfg) (ty : Typed) (o : Oper) (st : KS) (k : KE → Option β) : Option β :=
  match o.op with
  | .move x => (opd st.env x).bind fun v => k { v }
  | .assign x => (opd st.env x).bind fun v => k { v }
  | .pick c a b => (opd st.env c).bind fun c => (opd st.env a).bind fun a => (opd st.env b).bind fun b => pickK c a b fun v => k { v }
  | .alloc e => (T e).bind fun ti => varK (cfg.esc.contains (o.dst.getD 0)) st.hp o.dst e ti.zero k
  | .box e x => (T e).bind fun ti => (opd st.env x).bind fun v =>
      bif v.noL && decide (v.cells.length = ti.size) then varK (cfg.esc.contains (o.dst.getD 0)) st.hp o.dst e v.cells k else none
  | .build t parts => (opds st.env parts.toList).bind fun ps => (buildA T t ps).bind fun cs => k { v := .agg cs }
  | .buildSlice t len parts => (elemT T t).bind fun e => (opds st.env parts.toList).bind fun ps =>
      bif decide (0 < e.2.size ∧ len ≤ 1024 ∧ e.2.size ≤ 1024) then
        (packed (evenly len e.2.size) ps 0 0).bind fun rows =>
          bif cfg.virt.contains (o.dst.getD 0) then k { v := .vs e.2.size rows }
          else k { v := .sl st.hp.length 0 len len, hp := some (st.hp ++ [⟨e.1, e.2.size, KR.opt (ty.contains (o.dst.getD 0)) e.2.zero rows⟩]) }
      else none
  | .load t p => (opd st.env p).bind fun p => loadK T st.lo st.hp t p fun v => k { v }
  | .store t p x => (opd st.env p).bind fun p => (opd st.env x).bind fun v => storeK T st.lo st.hp st.n0 t p v k
  | .nilCheck x => (opd st.env x).bind fun
    | .lptr d c => k { v := .lptr d c }
    | .vp r c => k { v := .vp r c }
    | .ptr q r c t => freshK st.hp q t fun _ => k { v := .ptr q r c t }
    | .fn f caps => k { v := .fn f caps }
    | _ => none
  | .binOp op t x y _ => (opd st.env x).bind fun a => (opd st.env y).bind fun b => binHK (T t) st.hp op a b fun v => k { v }
  | .unOp op _ x => (opd st.env x).bind fun a => (unA op a).bind fun v => k { v }
  | .convert src dst x => (opd st.env x).bind fun a => convK T st.hp src dst a fun v => k { v }
  | .makeFunc fn first captured => match fn with
    | .func f => bif decide (first.size = 0) then (args st.env captured.toList).bind fun vs => bif allNoL vs then k { v := .fn f vs } else none else none
    | _ => none
  | .makeSlice t l c => (elemT T t).bind fun e => (opd st.env l).bind fun l => (opd st.env c).bind fun c =>
      match l, c with
      | .int .i64 n, .int .i64 m =>
        bif decide (0 < e.2.size ∧ e.2.bytes ≤ 1024) then
          bif decide (0 ≤ n ∧ n = m ∧ n ≤ most) then k { v := .sl st.hp.length 0 n.toNat n.toNat, hp := some (st.hp ++ [⟨e.1, e.2.size, KR.made (ty.contains (o.dst.getD 0)) n.toNat e.2.zero⟩]) } else none
        else none
      | _, _ => none
  | .slice t x lo hi mx => (opd st.env x).bind fun v => (optI st.env lo).bind fun lo => (optI st.env hi).bind fun hi => (optI st.env mx).bind fun mx => sliceK T st.hp t v lo hi mx fun v => k { v }
  | .fieldAddr s x f => (opd st.env x).bind fun p => (fieldT T s f).bind fun g => bif decide (g.2.size = 0) then none else
    match p with
    | .lptr d c => k { v := .lptr d (c + g.1) }
    | .vp r c => k { v := .vp r (c + g.1) }
    | .ptr q r c t => freshK st.hp q t fun _ => k { v := .ptr q r (c + g.1) t }
    | _ => none
  | .field s x f => (opd st.env x).bind fun v => match v with
    | .agg cs => (fieldT T s f).bind fun g => partK g.2 cs g.1 fun v => k { v }
    | _ => none
  | .indexAddr t x i => (opd st.env x).bind fun v => (opd st.env i).bind fun i => indexAddrK T st.hp t v i fun v => k { v }
  | .index t x i => (opd st.env x).bind fun v => (opd st.env i).bind fun i => indexK T t v i fun v => k { v }
  | .extract x i => (opd st.env x).bind fun
    | .tup vs => (vs[i]?).bind fun v => k { v }
    | _ => none
  | .call c => (args st.env c.args.toList).bind fun vs =>
      match c.callee with
      | .value (.func f) => callK rec st.hp st.n0 f vs k
      | .value x => (opd st.env x).bind fun
        | .fn f caps => callK rec st.hp st.n0 f (vs ++ caps) k
        | _ => none
      | .builtin b => builtinK T (cfg.over.contains (o.dst.getD 0)) (ty.contains (o.dst.getD 0)) st b c.argTypes.toList vs k
      | _ => none
  | _ => none

def guardK (ops : Array Oper) (o : Oper) (st : KS) (kt kf : KS → Option β) : Option β :=
  match o.guard with
  | none => kt st
  | some (j, want) => ((ops[j]?).bind (·.dst)).bind fun d => match st.env.lookup d with
    | some (.bool b) => match want with
      | true => bif b then kt { st with env := learn d true st.env } else kf { st with env := learn d false st.env }
      | false => bif b then kf { st with env := learn d true st.env } else kt { st with env := learn d false st.env }
    | some (.tup []) => kf st
    | _ => none

def stepK (rec : RecK β) (cfg : Cfg) (ty : Typed) (ops : Array Oper) (o : Oper) (st : KS) (k : KS → Option β) : Option β :=
  guardK ops o st (fun st => effK T rec cfg ty o st fun e => k (st.app o.dst e)) (fun st => k { st with env := putE st.env o.dst (.tup []) })

def opsK (rec : RecK β) (cfg : Cfg) (ty : Typed) (ops : Array Oper) : List Oper → KS → (KS → Option β) → Option β
  | [], st, k => k st
  | o :: l, st, k => stepK T rec cfg ty ops o st fun st => opsK rec cfg ty ops l st k

def stepDK (rec : RecK β) (cfg : Cfg) (ty : Typed) (ops : Array Oper) (o : Oper) (st : KS) (k : KS → Foot → Option β) : Option β :=
  guardK ops o st (fun st => effK T rec cfg ty o st fun e => bif noStaleK o.dst e st.env then k (st.app o.dst e) (footK o st e) else none) (fun st => k { st with env := putE st.env o.dst (.tup []) } { rd := dstL st.env o.dst })

def opsDK (rec : RecK β) (cfg : Cfg) (ty : Typed) (ops : Array Oper) : List Oper → KS → (KS → List Foot → Option β) → Option β
  | [], st, k => k st []
  | o :: l, st, k => stepDK T rec cfg ty ops o st fun st f => opsDK rec cfg ty ops l st fun st fs => k st (f :: fs)

def regionK (rec : RecK β) (cfg : Cfg) (ty : Typed) (ops : Array Oper) (draw : Bool) (st : KS) (k : KS → Option β) : Option β :=
  match draw with
  | true => bif orderOk ops then opsDK T rec cfg ty ops ops.toList st fun st fs => bif feetOk ops fs then k st else none else none
  | false => opsK T rec cfg ty ops ops.toList st k

def loopK (nm : KS → KS) (body : KS → (Ex → KS → Option β) → Option β) : Nat → KS → (Ex → KS → Option β) → Option β
  | 0, _, _ => none
  | n + 1, st, k => body st fun x st => match x with
    | .normal => loopK nm body n (nm st) k
    | x => k x st

/-- behind a block; behind the whole of a function -/
def kBlock (id : Nat) (k : Ex → KS → Option β) : Ex → KS → Option β := fun x st => match x with
  | .exit i => bif decide (i = id) then k .normal st else k (.exit i) st
  | x => k x st
/-- before another piece of code -/
def kSeq (next : KS → (Ex → KS → Option β) → Option β) (k : Ex → KS → Option β) : Ex → KS → Option β := fun x st => match x with
  | .normal => next st k
  | x => k x st

def resK (st : KS) (r : ResultVar) (k : AV → Option β) : Option β := match r with
  | .tmp t => k (get st.env t)
  | .cell a t => loadK T st.lo st.hp t (get st.env a) k
def resKs (st : KS) : List ResultVar → (List AV → Option β) → Option β
  | [], k => k []
  | r :: rs, k => resK T st r fun v => resKs st rs fun vs => k (v :: vs)

/-- no names of blocks in these rows? -/
def bareK (r : KR) (k : Bool → Option β) : Option β := match r with
  | .lst l => match refsR l with
    | [] => k true
    | _ => k false
  | .ints _ _ _ _ => k true
  | .fn n f => bif ((List.range n).map f).all fun row => row.all bareV then k true else none

def outK (hp0 : List KB) (st : KS) (r : AV) (k : AV → List KB → Nat → Option β) : Option β :=
  bif st.cl then
    match refs r with
    | [] => k r hp0 st.n0
    | _ => match tops r with
      | some [i] =>
        bif decide (st.n0 ≤ i) then
          match st.hp[i]? with
          | some b => bareK b.r fun bare => match bare with
            | true => k (ren i st.n0 r) (hp0 ++ [b]) st.n0
            | false => k r st.hp st.n0
          | none => k r st.hp st.n0
        else k r hp0 st.n0
      | _ => k r st.hp st.n0
  else k r st.hp 0

def finishK (fn : Func) (hp0 : List KB) (st : KS) (k : AV → List KB → Nat → Option β) : Option β :=
  resKs T st fn.results.toList fun vs => bif allNoL vs then outK hp0 st (one vs) k else none
def kFn (fn : Func) (hp0 : List KB) (k : AV → List KB → Nat → Option β) : Ex → KS → Option β := fun x st => match x with
  | .normal => finishK T fn hp0 st k
  | .ret => finishK T fn hp0 st k
  | _ => none

def codeK (m : Rounds) (rec : RecK β) (cfg : Cfg) (ty : Typed) : Code → KS → (Ex → KS → Option β) → Option β
  | .skip, st, k => k .normal st
  | .region _ ops draw, st, k => regionK T rec cfg ty ops draw st fun st => k .normal st
  | .seq a b, st, k => codeK m rec cfg ty a st (kSeq (codeK m rec cfg ty b) k)
  | .cond c a b, st, k => match c with
    | .tmp t => match st.env.lookup t with
      | some (.bool v) => bif v then codeK m rec cfg ty a { st with env := learn t true st.env } k else codeK m rec cfg ty b { st with env := learn t false st.env } k
      | _ => none
    | .const (.bool v) => bif v then codeK m rec cfg ty a st k else codeK m rec cfg ty b st k
    | _ => none
  | .block id c, st, k => codeK m rec cfg ty c st (kBlock id k)
  | .loop c, st, k => loopK (normK cfg c) (codeK m rec cfg ty c) (roundsOf m c) (normK cfg c st) k
  | .exit id, st, k => k (.exit id) st
  | .ret, st, k => k .ret st
  | _, _, _ => none

end

/-! ### calls -/
section
variable {β : Type} (T : Nat → Option TI)

/-- a slice's rows, frozen -/
def frzRows (kk : IntKind) (sz : Nat) (r : KR) (k : AV → Option β) : Option β :=
  match r with
  | .ints k' sz' n q => bif decide (k' = kk ∧ sz' = sz) then k (.vi kk sz n (canonI n sz q)) else none
  | .lst l => match intRowsOf kk sz l with
    | some nss => k (.vi kk sz nss.length (canonI nss.length sz (nthR nss)))
    | none => none
  | .fn _ _ => none
def frz1K (hp : List KB) (x : AV) (k : AV → Option β) : Option β :=
  match x with
  | .sl q r n t => freshK hp q t fun b => (kindOf T b.e).bind fun g => bif decide (b.sz = g.2) then bif decide (r + n ≤ b.r.len) then frzRows g.1 g.2 (b.r.cut r n) k else none else none
  | .ssl q r c n t => freshK hp q t fun b => (kindOf T b.e).bind fun g => rowK b.r r fun row =>
      bif decide (b.sz = g.2 ∧ c + n ≤ g.2 ∧ row.length = g.2) then bif allKind g.1 row then k (.vi g.1 1 n (fun i _ => numAt row (c + i))) else none else none
  | x => (freeze1 T [] x).bind k
def frzLK (hp : List KB) : List AV → (List AV → Option β) → Option β
  | [], k => k []
  | v :: l, k => frz1K T hp v fun v' => frzLK hp l fun l' => k (v' :: l')
def frzVK (hp : List KB) (x : AV) (k : AV → Option β) : Option β :=
  match x with
  | .agg cs => frzLK T hp cs fun cs => k (.agg cs)
  | x => frz1K T hp x k
def frzVsK (hp : List KB) : List AV → (List AV → Option β) → Option β
  | [], k => k []
  | v :: l, k => frzVK T hp v fun v' => frzVsK hp l fun l' => k (v' :: l')

end

/-- is it told as a call that writes (where a block is named)? -/
def mtAt (mt : KMT) (f : Nat) (ks : List Nat) : Option (List AV → NB → Option (Bool × AV × NB)) := match ks with
  | [] => none
  | _ => mt f

def mutK {β : Type} (T : Nat → Option TI) (hp : List KB) (vs : List AV) (g : List AV → NB → Option (Bool × AV × NB)) (k : AV → List KB → Nat → Option β) : Option β :=
  match oneRef (refsL vs) with
  | some i => (hp[i]?).bind fun b => bif (topsL vs).isSome then (nbOf T b).bind fun nb => (g (renL i 0 vs) nb).bind fun y => bif y.1 then k (shiftV i y.2.1) (hp.set i (KB.ofNB y.2.2)) i else none else none
  | none => none

def evalK {β : Type} (P : Program) (c : KCfg) : Nat → RecK β
  | 0, _, _, _, _ => none
  | n + 1, f, vs, hp, k =>
    match c.tbl f with
    | some g => frzVsK (tiOf P) hp vs fun vs' => (g vs').bind fun a => a.to fun y => bif y.1 then k (shiftV hp.length y.2.1) (hp ++ y.2.2.map (shiftKB hp.length)) hp.length else none
    | none =>
     match mtAt c.mtb f (refsL vs) with
     | some g => mutK (tiOf P) hp vs g k
     | none =>
      match P.funcs[f]? with
      | some fn => match fn.body with
        | some b =>
          bif codeOk (max fn.ntmps vs.length) b then
            codeK (tiOf P) (fun _ => n) (evalK P c n) (c.of f) (c.ty f) b ⟨zipEnv vs 0, [], hp, hp.length, true⟩ (kFn (tiOf P) fn hp k)
          else none
        | none => none
      | none => none

/-- one function, called in a heap -/
def fnKH {β : Type} (P : Program) (c : KCfg) (n : Nat) (m : Rounds) (f : Nat) (vs : List AV) (hp0 : List KB) (k : AV → List KB → Nat → Option β) : Option β :=
  match P.funcs[f]? with
  | some fn => match fn.body with
    | some b =>
      bif codeOk (max fn.ntmps vs.length) b then
        codeK (tiOf P) m (evalK P c n) (c.of f) (c.ty f) b ⟨zipEnv vs 0, [], hp0, hp0.length, true⟩ (kFn (tiOf P) fn hp0 k)
      else none
    | none => none
  | none => none
abbrev fnK {β : Type} (P : Program) (c : KCfg) (n : Nat) (m : Rounds) (f : Nat) (vs : List AV) (k : AV → List KB → Nat → Option β) : Option β := fnKH P c n m f vs [] k

/-! ### a loop within a function: the rounds that are left, and what comes behind -/
/-- behind a round -/
def kLoop {β : Type} (nm : KS → KS) (body : KS → (Ex → KS → Option β) → Option β) (m : Nat) (k : Ex → KS → Option β) : Ex → KS → Option β := fun x st => match x with
  | .normal => loopK nm body m (nm st) k
  | x => k x st

/-- what comes behind the piece at a path; 'ms' are the rounds that are left of the loops around it, the outermost first -/
def kAt {β : Type} (T : Nat → Option TI) (m : Rounds) (rec : RecK β) (cfg : Cfg) (ty : Typed) : Code → List Bool → List Nat → (Ex → KS → Option β) → (Ex → KS → Option β)
  | .seq a b, x :: l, ms, k => bif x then kAt T m rec cfg ty b l ms k else kAt T m rec cfg ty a l ms (kSeq (codeK T m rec cfg ty b) k)
  | .cond _ a b, x :: l, ms, k => bif x then kAt T m rec cfg ty b l ms k else kAt T m rec cfg ty a l ms k
  | .block id c, _ :: l, ms, k => kAt T m rec cfg ty c l ms (kBlock id k)
  | .loop c, _ :: l, n :: ms, k => kAt T m rec cfg ty c l ms (kLoop (normK cfg c) (codeK T m rec cfg ty c) n k)
  | _, _, _, k => k

/-- the loop at a path of function f: 'left' rounds are left, the state at its head is 'st' -/
def loopAtH {β : Type} (P : Program) (c : KCfg) (n : Nat) (m : Rounds) (f : Nat) (hp0 : List KB) (path : List Bool) (ms : List Nat) (left : Nat) (st : KS) (k : AV → List KB → Nat → Option β) : Option β :=
  match codeAt (bodyOf P f) path with
  | .loop b => loopK (normK (c.of f) b) (codeK (tiOf P) m (evalK P c n) (c.of f) (c.ty f) b) left st (kAt (tiOf P) m (evalK P c n) (c.of f) (c.ty f) (bodyOf P f) path ms (kFn (tiOf P) (fnOf P f) hp0 k))
  | _ => none
abbrev loopAt {β : Type} (P : Program) (c : KCfg) (n : Nat) (m : Rounds) (f : Nat) (path : List Bool) (ms : List Nat) (left : Nat) (st : KS) (k : AV → List KB → Nat → Option β) : Option β := loopAtH P c n m f [] path ms left st k

end Go.Proofs.Ythbmlioknnhleaa.Abs

/- The abstract machine run with continuations over typed blocks: what it gives is what the machine gives: data. -/
namespace Go.Proofs.Ythbmlioknnhleaa.Abs
open Go

theorem if_k {β : Type} {c : Prop} [Decidable c] {x : Option β} {r : β} (h : (bif decide c then x else none) = some r) : c ∧ x = some r := by
  by_cases hc : c
  · simp [hc] at h; exact ⟨hc, h⟩
  · simp [hc] at h
theorem bif_k {β : Type} {c : Bool} {x : Option β} {r : β} (h : (bif c then x else none) = some r) : c = true ∧ x = some r := by
  cases c with
  | true => exact ⟨rfl, h⟩
  | false => cases h

theorem absH_get (hp : List KB) (i : Nat) : (absH hp)[i]? = (hp[i]?).map KB.abs := by simp [absH]
theorem absH_len (hp : List KB) : (absH hp).length = hp.length := by simp [absH]
theorem absH_app (a b : List KB) : absH (a ++ b) = absH a ++ absH b := by simp [absH]
theorem absH_set (hp : List KB) (i : Nat) (b : KB) : absH (hp.set i b) = (absH hp).set i b.abs := by simp [absH, List.map_set]

theorem KR.len_eq (r : KR) : r.list.length = r.len := by cases r <;> simp [KR.list, KR.len]

theorem rowsAt_get : ∀ (l : List (List AV)) (j i : Nat), j ≤ i → i < j + l.length → l[i - j]? = some (rowsAt l j i)
  | [], j, i, h1, h2 => by simp at h2; omega
  | [x], j, i, h1, h2 => by
    have : i - j = 0 := by simp at h2; omega
    rw [this]; rfl
  | x :: y :: l, j, i, h1, h2 => by
    simp only [rowsAt, selL_eq]
    by_cases h : i = j
    · subst h; simp
    · have h3 : (i == j) = false := by simpa using h
      have ih := rowsAt_get (y :: l) (j + 1) i (by omega) (by simp at h2 ⊢; omega)
      rw [h3, cond_false, ← ih]
      obtain ⟨d, hd⟩ : ∃ d, i - j = d + 1 := ⟨i - j - 1, by omega⟩
      rw [hd, show i - (j + 1) = d by omega]
      rfl

section
variable {β : Type} {T : Nat → Option TI} {r : β}

theorem rowK_s {x : KR} {i : Nat} {k : List AV → Option β} (h : rowK x i k = some r) : ∃ row, x.list[i]? = some row ∧ k row = some r := by
  unfold rowK at h
  split at h
  · rename_i l
    obtain ⟨h1, h⟩ := if_k h
    have := rowsAt_get l 0 i (Nat.zero_le _) (by omega)
    exact ⟨_, by simpa [KR.list] using this, h⟩
  · obtain ⟨h1, h⟩ := if_k h
    exact ⟨_, by simp [KR.list, h1], h⟩
  · obtain ⟨h1, h⟩ := if_k h
    exact ⟨_, by simp [KR.list, h1], h⟩
end

theorem setRows_get (i : Nat) (row : List AV) : ∀ (l : List (List AV)) (j a : Nat), (setRows i row j l)[a]? = (l[a]?).map fun x => bif i == j + a then row else x
  | [], j, a => by simp [setRows]
  | x :: l, j, 0 => by simp [setRows, selL_eq]
  | x :: l, j, a + 1 => by simp [setRows, setRows_get i row l (j + 1) a, show j + 1 + a = j + (a + 1) by omega]

theorem cells_nth {k : IntKind} {ns : List Int} {sz : Nat} (h : ns.length = sz) : cellsI k sz (fun c => nthI ns c) = ns.map (.int k ·) := by
  apply List.ext_getElem?
  intro j
  rw [cellsI_get, List.getElem?_map]
  split
  · rename_i hj
    rw [nthI_get (by omega)]
    rfl
  · rw [List.getElem?_eq_none (by omega)]
    rfl

theorem KR.set_list (x : KR) (i : Nat) (row : List AV) : (x.set i row).list = x.list.set i row := by
  have key : ∀ (n : Nat) (f g : Nat → List AV), (∀ a, a < n → g a = bif a == i then row else f a) → (List.range n).map g = ((List.range n).map f).set i row := by
    intro n f g hg
    apply List.ext_getElem?
    intro a
    rw [List.getElem?_set, List.getElem?_map, List.getElem?_map, List.length_map, List.length_range]
    by_cases ha : a < n
    · rw [List.getElem?_range ha]
      simp only [Option.map_some, hg a ha]
      by_cases e : i = a
      · subst e; simp [ha]
      · have : (a == i) = false := by simpa using Ne.symm e
        simp [this, e]
    · rw [List.getElem?_eq_none (l := List.range n) (by simp; omega)]
      by_cases e : i = a
      · subst e; simp [ha]
      · simp [e]
  unfold KR.set
  cases x with
  | lst l =>
    simp only [KR.list]
    apply List.ext_getElem?
    intro a
    rw [setRows_get, List.getElem?_set, Nat.zero_add]
    by_cases e : i = a
    · subst e
      by_cases hl : i < l.length
      · simp [hl]
      · simp [hl]
    · have : (i == a) = false := by simpa using e
      simp [this, e]
  | ints k sz n q =>
    simp only
    split
    · rename_i ns hns
      by_cases hsz : ns.length = sz
      · simp only [hsz, decide_true, cond_true, KR.list]
        refine key n _ _ fun a _ => ?_
        cases a == i with
        | true => simp only [cond_true]; rw [cells_nth hsz, intsOf_eq hns]
        | false => rfl
      · simp only [hsz, decide_false, cond_false, KR.list]
    · simp only [KR.list]
  | fn n f =>
    simp only [KR.list]
    exact key n _ _ fun a _ => by rw [selL_eq]

theorem intRowsOf_eq {k : IntKind} {sz : Nat} : ∀ {l : List (List AV)} {nss : List (List Int)}, intRowsOf k sz l = some nss → l = nss.map (fun ns => ns.map (.int k ·)) ∧ ∀ ns ∈ nss, ns.length = sz
  | [], nss, h => by cases h; exact ⟨rfl, fun _ h => by cases h⟩
  | row :: l, nss, h => by
    simp only [intRowsOf] at h
    split at h
    · rename_i ns nss' h1 h2
      obtain ⟨h3, h⟩ := if_k h
      cases h
      obtain ⟨e1, e2⟩ := intRowsOf_eq h2
      refine ⟨by rw [List.map_cons, ← e1, intsOf_eq h1], fun x hx => ?_⟩
      rcases List.mem_cons.1 hx with rfl | hx
      · exact h3
      · exact e2 x hx
    · cases h

theorem nthR_get : ∀ {nss : List (List Int)} {i : Nat} {ns : List Int}, nss[i]? = some ns → nthR nss i = nthI ns
  | [], i, ns, h => by simp at h
  | [x], 0, ns, h => by simp at h; subst h; rfl
  | [x], i + 1, ns, h => by simp at h
  | x :: y :: l, 0, ns, h => by simp at h; subst h; rfl
  | x :: y :: l, i + 1, ns, h => by
    have := nthR_get (nss := y :: l) (i := i) (ns := ns) (by simpa using h)
    rw [← this]
    rfl

theorem ints_nthR {k : IntKind} {sz : Nat} {l : List (List AV)} {nss : List (List Int)} (h : intRowsOf k sz l = some nss) : (List.range nss.length).map (fun i => cellsI k sz (nthR nss i)) = l := by
  obtain ⟨h1, h2⟩ := intRowsOf_eq h
  rw [h1]
  apply List.ext_getElem?
  intro i
  rw [List.getElem?_map, List.getElem?_map]
  by_cases hi : i < nss.length
  · rw [List.getElem?_range hi]
    obtain ⟨ns, hns⟩ : ∃ ns, nss[i]? = some ns := ⟨_, List.getElem?_eq_getElem hi⟩
    rw [hns]
    simp only [Option.map_some, nthR_get hns]
    exact congrArg some (cells_nth (h2 ns (List.mem_of_getElem? hns)))
  · rw [List.getElem?_eq_none (l := List.range _) (by simp; omega), List.getElem?_eq_none (l := nss) (by omega)]
    rfl

theorem range_app {α : Type} (n m : Nat) (f : Nat → α) : (List.range (n + m)).map f = (List.range n).map f ++ (List.range m).map (fun i => f (n + i)) := by
  rw [List.range_add, List.map_append, List.map_map]
  rfl

theorem KR.app_list (a b : KR) : (a.app b).list = a.list ++ b.list := by
  unfold KR.app
  split
  · rfl
  · rename_i k sz n q m
    split
    · rename_i nss h
      simp only [KR.list]
      rw [range_app]
      congr 1
      · apply List.map_congr_left
        intro i hi
        have : i < n := List.mem_range.1 hi
        simp [this]
      · refine Eq.trans ?_ (ints_nthR h)
        apply List.map_congr_left
        intro i _
        have : ¬ (n + i < n) := by omega
        simp [this]
    · rfl
  · rename_i k sz n q k' sz' n' q'
    by_cases h : k = k' ∧ sz = sz'
    · obtain ⟨rfl, rfl⟩ := h
      simp only [and_self, decide_true, cond_true, KR.list]
      rw [range_app]
      congr 1
      · apply List.map_congr_left
        intro i hi
        have : i < n := List.mem_range.1 hi
        simp [this]
      · apply List.map_congr_left
        intro i _
        have : ¬ (n + i < n) := by omega
        simp [this]
    · simp only [h, decide_false, cond_false]
      rfl
  · rename_i n f row
    simp only [KR.list]
    rw [range_app]
    congr 1
    · apply List.map_congr_left
      intro i hi
      have : i < n := List.mem_range.1 hi
      simp [this, selL_eq]
    · simp [selL_eq]
  · rfl

theorem KR.ty_list (zero : List AV) (m : List (List AV)) : (KR.ty zero m).list = m := by
  unfold KR.ty
  split
  · split
    · rename_i nss h
      exact ints_nthR h
    · rfl
  · split
    · simp [KR.list]
    · simp [KR.list]
    · rfl
theorem KR.opt_list (ty : Bool) (zero : List AV) (m : List (List AV)) : (KR.opt ty zero m).list = m := by
  unfold KR.opt
  split
  · exact KR.ty_list _ _
  · rfl
theorem KR.made_list (ty : Bool) (n : Nat) (zero : List AV) : (KR.made ty n zero).list = List.replicate n zero := by
  unfold KR.made
  split
  · split
    · rename_i k z h
      simp only [KR.list]
      rw [intsAll_eq h, cells_nth rfl]
      apply List.ext_getElem?
      intro i
      simp [List.getElem?_replicate]
      split <;> simp_all
    · simp only [KR.list]
      apply List.ext_getElem?
      intro i
      simp [List.getElem?_replicate]
      split <;> simp_all
  · rfl

theorem KR.madeAs_list (r : KR) (n : Nat) (zero : List AV) : (KR.madeAs r n zero).list = List.replicate n zero := by
  unfold KR.madeAs
  split
  · exact KR.made_list _ _ _
  · rfl
theorem KR.over_list (r : KR) (n : Nat) (new : KR) (h : n + new.len ≤ r.len) : (r.over n new).list = r.list.take n ++ (new.list ++ r.list.drop (n + new.list.length)) := by
  have hl : new.list.length = new.len := KR.len_eq new
  rw [hl]
  unfold KR.over
  split
  · rename_i k sz m q k' sz' m' q'
    by_cases e : k = k' ∧ sz = sz'
    · obtain ⟨rfl, rfl⟩ := e
      simp only [KR.len] at h
      simp only [and_self, decide_true, cond_true, KR.list, KR.len]
      apply List.ext_getElem?
      intro i
      by_cases h1 : i < n
      · rw [List.getElem?_append_left (by simp; omega), List.getElem?_take_of_lt h1, List.getElem?_map, List.getElem?_map, List.getElem?_range (by omega)]
        simp [show ¬ n ≤ i by omega]
      · rw [List.getElem?_append_right (by simp; omega)]
        simp only [List.length_take, List.length_map, List.length_range, show min n m = n by omega]
        by_cases h2 : i < n + m'
        · rw [List.getElem?_append_left (by simp; omega), List.getElem?_map, List.getElem?_map, List.getElem?_range (by omega), List.getElem?_range (by omega)]
          simp [show n ≤ i by omega, h2]
        · rw [List.getElem?_append_right (by simp; omega), List.getElem?_drop]
          simp only [List.length_map, List.length_range]
          rw [show n + m' + (i - n - m') = i by omega, List.getElem?_map, List.getElem?_map]
          by_cases h3 : i < m
          · rw [List.getElem?_range h3]
            simp [h2]
          · rw [List.getElem?_eq_none (by simp; omega)]
            rfl
    · simp only [e, decide_false, cond_false]
      rfl
  · rfl

theorem cut_range {α : Type} (n a m : Nat) (f : Nat → α) (h : a + m ≤ n) : (((List.range n).map f).drop a).take m = (List.range m).map (shiftF a f) := by
  apply List.ext_getElem?
  intro i
  rw [List.getElem?_take, List.getElem?_map]
  split
  · rename_i hi
    rw [List.getElem?_drop, List.getElem?_map, List.getElem?_range (by omega), List.getElem?_range hi]
    simp [shiftF_eq]
  · rename_i hi
    rw [List.getElem?_eq_none (l := List.range m) (by simp; omega)]
    rfl

theorem shiftF_comp {α γ : Type} (l : Nat) (q : Nat → α) (g : α → γ) : (fun i => g (shiftF l q i)) = shiftF l (fun i => g (q i)) := by
  funext i; rw [shiftF_eq, shiftF_eq]

theorem KR.cut_list (x : KR) (a n : Nat) (h : a + n ≤ x.len) : (x.cut a n).list = (x.list.drop a).take n := by
  cases x with
  | lst l => rfl
  | ints k sz m q =>
    simp only [KR.cut, KR.list]
    rw [cut_range m a n _ h, ← shiftF_comp (g := fun x => cellsI k sz x)]
  | fn m f =>
    simp only [KR.cut, KR.list]
    rw [cut_range m a n _ h]

theorem byteAt_get {s : ByteArray} {i : Nat} (h : i < s.size) : s.data[i]? = some (s.data[i]?.getD 0) := by
  have h' : i < s.data.size := h
  rw [Array.getElem?_eq_getElem h']
  rfl

theorem strRows_list (s : ByteArray) : (strRows s).list = s.data.toList.map fun b => [.int .u8 b.toNat] := by
  unfold strRows
  simp only [KR.list]
  apply List.ext_getElem?
  intro i
  rw [List.getElem?_map, List.getElem?_map]
  by_cases hi : i < s.size
  · rw [List.getElem?_range hi, Array.getElem?_toList, byteAt_get hi]
    simp [cellsFrom, byteAt]
  · rw [List.getElem?_eq_none (l := List.range _) (by simp; omega), List.getElem?_eq_none (l := s.data.toList) (by simp; exact Nat.le_of_not_lt hi)]
    rfl

theorem bytesOf_map (n : Nat) (q : Nat → Int) : bytesOf ((List.range n).map fun i => [.int .u8 (q i)]) = some ((List.range n).map fun i => UInt8.ofNat (q i).toNat) := by
  have : ∀ (l : List Nat), bytesOf (l.map fun i => [.int .u8 (q i)]) = some (l.map fun i => UInt8.ofNat (q i).toNat) := by
    intro l
    induction l with
    | nil => rfl
    | cons a l ih => simp [bytesOf, ih]
  exact this _

theorem bytesK_s {x : KR} {s : ByteArray} (h : bytesK x = some s) : ∃ l, bytesOf x.list = some l ∧ s = ⟨l.toArray⟩ := by
  unfold bytesK at h
  split at h
  · rename_i n q
    cases h
    refine ⟨_, ?_, rfl⟩
    simp only [KR.list]
    exact bytesOf_map n fun i => q i 0
  · simp only [Option.map_eq_some_iff] at h
    obtain ⟨b, hb, rfl⟩ := h
    exact ⟨b, hb, rfl⟩
  · cases h

/-! ### freezing -/
theorem qOf_ints (k : IntKind) (sz n : Nat) (q : Nat → Nat → Int) : qOf ((List.range n).map fun i => cellsI k sz (q i)) = canonI n sz q := by
  funext i j
  unfold qOf canonI
  by_cases hi : i < n
  · rw [List.getElem?_map, List.getElem?_range hi]
    simp only [Option.map_some, numAt, cellsI_get, hi, decide_true, Bool.true_and]
    by_cases hj : j < sz
    · simp [hj]
    · simp [hj]
  · rw [List.getElem?_eq_none (by simp; omega)]
    simp [hi]
theorem allKind_cells (k : IntKind) (q : Nat → Int) : ∀ (n i : Nat), allKind k (cellsFrom k q i n) = true
  | 0, i => rfl
  | n + 1, i => by simp [cellsFrom, allKind, allKind_cells k q n (i + 1)]
theorem intRows_ints (k : IntKind) (sz n : Nat) (q : Nat → Nat → Int) : intRows k sz ((List.range n).map fun i => cellsI k sz (q i)) = true := by
  unfold intRows
  rw [List.all_eq_true]
  intro row hrow
  obtain ⟨i, _, rfl⟩ := List.mem_map.1 hrow
  simp [cellsFrom_length, allKind_cells]

section
variable {β : Type} {T : Nat → Option TI} {r : β}

theorem freshK_s {hp : List KB} {i t : Nat} {k : KB → Option β} (h : freshK hp i t k = some r) : ∃ b, hp[i]? = some b ∧ fresh (absH hp) i t = some b.abs ∧ k b = some r := by
  unfold freshK at h
  simp only [Option.bind_eq_some_iff] at h
  obtain ⟨b, hb, h⟩ := h
  obtain ⟨h1, h2⟩ := bif_k h
  refine ⟨b, hb, ?_, h2⟩
  unfold fresh
  rw [absH_get, hb]
  simp only [Option.map_some, KB.abs, KR.len_eq, h1, cond_true]

theorem frzRows_s {kk : IntKind} {sz : Nat} {x : KR} {k : AV → Option β} (h : frzRows kk sz x k = some r) : intRows kk sz x.list = true ∧ k (.vi kk sz x.len (qOf x.list)) = some r := by
  unfold frzRows at h
  split at h
  · obtain ⟨h1, h⟩ := if_k h
    obtain ⟨rfl, rfl⟩ := h1
    simp only [KR.list, KR.len, qOf_ints, intRows_ints]
    exact ⟨trivial, h⟩
  · split at h
    · rename_i nss hn
      have e := ints_nthR hn
      simp only [KR.list, KR.len]
      have hl := (intRowsOf_eq hn).1
      have hlen : nss.length = (nss.map (fun ns => ns.map (AV.int kk ·))).length := by simp
      rw [← e, intRows_ints, qOf_ints]
      refine ⟨rfl, ?_⟩
      simpa using h
    · cases h
  · cases h

theorem freeze1_nil {hp : List Blk} {x x' : AV} (h : freeze1 T [] x = some x') (hx : ∀ q r n t, x ≠ .sl q r n t) (hx' : ∀ q r c n t, x ≠ .ssl q r c n t) : freeze1 T hp x = some x' := by
  cases x <;> first | exact h | exact absurd rfl (hx _ _ _ _) | exact absurd rfl (hx' _ _ _ _ _)

theorem frz1K_s {hp : List KB} {x : AV} {k : AV → Option β} (h : frz1K T hp x k = some r) : ∃ x', freeze1 T (absH hp) x = some x' ∧ k x' = some r := by
  unfold frz1K at h
  split at h
  · rename_i q a n t
    obtain ⟨b, h1, h2, h⟩ := freshK_s h
    simp only [Option.bind_eq_some_iff] at h
    obtain ⟨⟨kk, sz⟩, h3, h⟩ := h
    obtain ⟨h4, h⟩ := if_k h
    obtain ⟨h5, h⟩ := if_k h
    obtain ⟨h6, h⟩ := frzRows_s h
    rw [KR.cut_list _ _ _ h5] at h6 h
    refine ⟨_, ?_, h⟩
    simp only [freeze1, h2, Option.bind_some]
    rw [show b.abs.e = b.e from rfl, h3]
    simp only [Option.bind_some]
    rw [if_pos ⟨h4, by show a + n ≤ b.r.list.length; rw [KR.len_eq]; exact h5, h6⟩]
    have : (b.r.cut a n).len = n := by
      rw [← KR.len_eq, KR.cut_list _ _ _ h5]
      have := KR.len_eq b.r
      simp
      omega
    rw [this]
    rfl
  · rename_i q a c n t
    obtain ⟨b, h1, h2, h⟩ := freshK_s h
    simp only [Option.bind_eq_some_iff] at h
    obtain ⟨⟨kk, sz⟩, h3, h⟩ := h
    obtain ⟨row, h4, h⟩ := rowK_s h
    obtain ⟨h5, h⟩ := if_k h
    obtain ⟨h6, h⟩ := bif_k h
    refine ⟨_, ?_, h⟩
    simp only [freeze1, h2, Option.bind_some]
    rw [show b.abs.e = b.e from rfl, h3]
    simp only [Option.bind_some]
    rw [show b.abs.rows[a]? = some row from h4]
    simp only [Option.bind_some]
    rw [if_pos ⟨h5.1, h5.2.1, h5.2.2, h6⟩]
  · rename_i hne hne'
    simp only [Option.bind_eq_some_iff] at h
    obtain ⟨x', h1, h⟩ := h
    exact ⟨x', freeze1_nil h1 (fun q r n t e => hne q r n t e) (fun q r c n t e => hne' q r c n t e), h⟩

theorem frzLK_s {hp : List KB} : ∀ {l : List AV} {k : List AV → Option β}, frzLK T hp l k = some r → ∃ l', freezeL T (absH hp) l = some l' ∧ k l' = some r
  | [], k, h => ⟨[], rfl, h⟩
  | v :: l, k, h => by
    simp only [frzLK] at h
    obtain ⟨v', h1, h⟩ := frz1K_s h
    obtain ⟨l', h2, h⟩ := frzLK_s h
    exact ⟨_, by simp only [freezeL, h1, Option.bind_some, h2, Option.map_some], h⟩
theorem frzVK_s {hp : List KB} {x : AV} {k : AV → Option β} (h : frzVK T hp x k = some r) : ∃ x', freezeV T (absH hp) x = some x' ∧ k x' = some r := by
  unfold frzVK at h
  split at h
  · obtain ⟨cs, h1, h⟩ := frzLK_s h
    exact ⟨_, by simp only [freezeV, h1, Option.map_some], h⟩
  · rename_i hne
    obtain ⟨x', h1, h⟩ := frz1K_s h
    refine ⟨x', ?_, h⟩
    cases x <;> first | exact h1 | exact absurd rfl (hne _)
theorem frzVsK_s {hp : List KB} : ∀ {l : List AV} {k : List AV → Option β}, frzVsK T hp l k = some r → ∃ l', freezeVs T (absH hp) l = some l' ∧ k l' = some r
  | [], k, h => ⟨[], rfl, h⟩
  | v :: l, k, h => by
    simp only [frzVsK] at h
    obtain ⟨v', h1, h⟩ := frzVK_s h
    obtain ⟨l', h2, h⟩ := frzVsK_s h
    exact ⟨_, by simp only [freezeVs, h1, Option.bind_some, h2, Option.map_some], h⟩
end

theorem shiftVs_cells (d : Nat) (k : IntKind) (q : Nat → Int) : ∀ (n i : Nat), shiftVs d (cellsFrom k q i n) = cellsFrom k q i n
  | 0, i => rfl
  | n + 1, i => by simp [cellsFrom, shiftVs, shiftV, shiftVs_cells d k q n (i + 1)]
theorem shiftR_list (d : Nat) (x : KR) : (shiftR d x).list = x.list.map (shiftVs d) := by
  cases x with
  | lst l => rfl
  | ints k sz n q =>
    simp only [shiftR, KR.list, List.map_map]
    apply List.map_congr_left
    intro i _
    exact (shiftVs_cells d k (q i) sz 0).symm
  | fn n f =>
    simp only [shiftR, KR.list, List.map_map]
    rfl
theorem shiftKB_abs (d : Nat) (y : List KB) : absH (y.map (shiftKB d)) = (absH y).map (shiftB d) := by
  unfold absH
  rw [List.map_map, List.map_map]
  apply List.map_congr_left
  intro b _
  simp only [Function.comp, KB.abs, shiftKB, shiftB, shiftR_list]

end Go.Proofs.Ythbmlioknnhleaa.Abs

/- The abstract machine run with continuations over typed blocks: what it gives is what the machine gives: operations. -/
namespace Go.Proofs.Ythbmlioknnhleaa.Abs
open Go

section
variable {β : Type} {T : Nat → Option TI} {r : β}

theorem binK_s {op : BinOp} {kk : IntKind} {x y : Int} {k : AV → Option β} (h : binK op kk x y k = some r) : ∃ v, binI op kk x y = some v ∧ k v = some r := by
  unfold binK at h
  split at h
  · by_cases hy : y = 0
    · simp [hy] at h
    · simp [hy] at h; exact ⟨_, by simp [binI, hy], h⟩
  · by_cases hy : y = 0
    · simp [hy] at h
    · simp [hy] at h; exact ⟨_, by simp [binI, hy], h⟩
  · simpa only [Option.bind_eq_some_iff] using h

theorem binAK_s {ti : Option TI} {op : BinOp} {x y : AV} {k : AV → Option β} (h : binAK ti op x y k = some r) : ∃ v, binT ti op x y = some v ∧ k v = some r := by
  unfold binAK at h
  split at h
  · simp only [Option.bind_eq_some_iff] at h
    obtain ⟨t, ht, h⟩ := h
    split at h
    · rename_i hd
      exact ⟨_, by simp only [binT, ht, Option.bind_some, hd], h⟩
    · rename_i hd
      exact ⟨_, by simp only [binT, ht, Option.bind_some, hd], h⟩
    · cases h
  · rename_i kk sz n q
    simp only [Option.bind_eq_some_iff] at h
    obtain ⟨t, ht, h⟩ := h
    split at h
    · rename_i e hd
      by_cases hc : n = 0 ∧ ¬ q 0 0 = 0
      · simp [hc] at h
      · simp only [hc, decide_false, cond_false] at h
        exact ⟨_, by simp only [binT, ht, Option.bind_some, hd, if_neg hc], h⟩
    · rename_i e hd
      by_cases hc : n = 0 ∧ ¬ q 0 0 = 0
      · simp [hc] at h
      · simp only [hc, decide_false, cond_false] at h
        exact ⟨_, by simp only [binT, ht, Option.bind_some, hd, if_neg hc], h⟩
    · cases h
  · rename_i ka a kb b
    split at h
    · by_cases hb : b < 0
      · simp [hb] at h
      · simp [hb] at h; exact ⟨_, by simp [binT, binA, hb], h⟩
    · by_cases hb : b < 0
      · simp [hb] at h
      · simp [hb] at h; exact ⟨_, by simp [binT, binA, hb], h⟩
    · rename_i h1 h2
      obtain ⟨hk, h'⟩ := if_k h
      clear h
      subst hk
      obtain ⟨v, hv, hr⟩ := binK_s h'
      refine ⟨v, ?_, hr⟩
      cases op <;> first | exact (h1 rfl).elim | exact (h2 rfl).elim | (show (if ka = ka then binI _ ka a b else none) = some v; rw [if_pos rfl]; exact hv)
  · split at h
    · obtain ⟨h1, h⟩ := if_k h
      exact ⟨_, by simp only [binT, binA, binS]; rw [if_pos h1], h⟩
    · simp only [Option.bind_eq_some_iff] at h
      obtain ⟨v, h1, h⟩ := h
      exact ⟨v, h1, h⟩
  · split at h
    · rename_i ka xs kb ys ls ha hb hls0
      obtain ⟨h1, h2⟩ := bif_k h
      clear h
      simp only [Bool.and_eq_true, decide_eq_true_eq] at h1
      obtain ⟨⟨rfl, hl⟩, hls⟩ := h1
      rw [intsAll_eq ha, intsAll_eq hb]
      split at h2
      · exact ⟨_, by simp only [binT, binA, hls0, Option.bind_some, eqCells_ints hls hl, Option.map_some], h2⟩
      · exact ⟨_, by simp only [binT, binA, hls0, Option.bind_some, eqCells_ints hls hl, Option.map_some], h2⟩
      · cases h2
    · simp only [Option.bind_eq_some_iff] at h
      obtain ⟨v, h1, h⟩ := h
      exact ⟨v, h1, h⟩
  · simpa only [Option.bind_eq_some_iff] using h

theorem binHK_s {ti : Option TI} {hp : List KB} {op : BinOp} {x y : AV} {k : AV → Option β} (h : binHK ti hp op x y k = some r) : ∃ v, binH ti (absH hp) op x y = some v ∧ k v = some r := by
  unfold binHK at h
  split at h
  · obtain ⟨b, _, hf, h'⟩ := freshK_s h
    clear h
    have h := h'
    clear h'
    simp only [Option.bind_eq_some_iff] at h
    obtain ⟨t, ht, h⟩ := h
    split at h
    · rename_i hd
      exact ⟨_, by simp only [binH, hf, Option.bind_some, ht, hd], h⟩
    · rename_i hd
      exact ⟨_, by simp only [binH, hf, Option.bind_some, ht, hd], h⟩
    · cases h
  · rename_i hn
    obtain ⟨v, h1, h2⟩ := binAK_s h
    refine ⟨v, ?_, h2⟩
    unfold binH
    split
    · exact (hn _ _ _ _ rfl rfl).elim
    · exact h1

theorem rowAtK_s {lo : List (Nat × List AV)} {hp : List KB} {p : AV} {k : List AV → Nat → Option β} (h : rowAtK lo hp p k = some r) : ∃ x c, rowAt lo (absH hp) p = some (x, c) ∧ k x c = some r := by
  unfold rowAtK at h
  split at h
  · simp only [Option.bind_eq_some_iff] at h
    obtain ⟨x, hx, h⟩ := h
    exact ⟨x, _, by simp only [rowAt, hx, Option.map_some], h⟩
  · exact ⟨_, _, rfl, h⟩
  · obtain ⟨b, hb, hf, h⟩ := freshK_s h
    obtain ⟨x, hx, h⟩ := rowK_s h
    exact ⟨x, _, by simp only [rowAt, hf, Option.bind_some]; rw [show b.abs.rows = b.r.list from rfl, hx]; rfl, h⟩
  · cases h

theorem cellK_s {cs : List AV} {off : Nat} {k : AV → Option β} (h : cellK cs off k = some r) : ∃ v, cs[off]? = some v ∧ k v = some r := by
  unfold cellK at h
  split at h
  · rename_i kk ns hn
    obtain ⟨h1, h⟩ := if_k h
    refine ⟨_, ?_, h⟩
    rw [intsAll_eq hn, List.getElem?_map, nthI_get h1]
    rfl
  · simpa only [Option.bind_eq_some_iff] using h

theorem partK_s {ti : TI} {cs : List AV} {off : Nat} {k : AV → Option β} (h : partK ti cs off k = some r) : ∃ v, partOf ti cs off = some v ∧ k v = some r := by
  unfold partK at h
  unfold partOf
  cases ha : agg? ti.d with
  | true =>
    rw [ha] at h
    simp only [cond_true] at h ⊢
    obtain ⟨h1, h2⟩ := if_k h
    exact ⟨_, by rw [if_pos h1], h2⟩
  | false =>
    rw [ha] at h
    simp only [cond_false] at h ⊢
    exact cellK_s h

theorem loadK_s {lo : List (Nat × List AV)} {hp : List KB} {ty : Nat} {p : AV} {k : AV → Option β} (h : loadK T lo hp ty p k = some r) : ∃ v, loadA T lo (absH hp) ty p = some v ∧ k v = some r := by
  unfold loadK at h
  obtain ⟨x, c, h1, h⟩ := rowAtK_s h
  simp only [Option.bind_eq_some_iff] at h
  obtain ⟨ti, h2, h⟩ := h
  obtain ⟨v, h3, h⟩ := partK_s h
  exact ⟨v, by simp only [loadA, h1, Option.bind_some, h2, h3], h⟩

theorem storeRowK_eq (v : AV) (row : List AV) (c : Nat) : storeRowK v row c = storeRow v row c := by
  unfold storeRowK storeRow
  cases v <;> first | rfl | exact setC_eq _ _ _

theorem set_abs (hp : List KB) (i : Nat) (b : KB) (x : KR) : (absH (hp.set i { b with r := x })) = (absH hp).set i { b.abs with rows := x.list } := by
  rw [absH_set]; rfl

theorem put_list {x : KR} {i c : Nat} {v : AV} {row : List AV} (h : x.list[i]? = some row) : (x.put i c v row).list = x.list.set i (storeRow v row c) := by
  have gen : (x.set i (storeRowK v row c)).list = x.list.set i (storeRow v row c) := by rw [KR.set_list, storeRowK_eq]
  unfold KR.put
  split
  · rename_i k sz n q k' y
    by_cases hk : k' = k
    · subst hk
      simp only [decide_true, cond_true, KR.list] at h ⊢
      have hi : i < n := by
        have := (List.getElem?_eq_some_iff.1 h).1
        simpa using this
      have hrow : row = cellsI k' sz (q i) := by
        rw [List.getElem?_map, List.getElem?_range hi] at h
        simpa using h.symm
      apply List.ext_getElem?
      intro a
      rw [List.getElem?_set, List.getElem?_map, List.getElem?_map, List.length_map, List.length_range]
      by_cases ha : a < n
      · rw [List.getElem?_range ha]
        simp only [Option.map_some]
        by_cases e : i = a
        · subst e
          simp only [if_true, hi, Option.some.injEq, BEq.rfl, Bool.and_true]
          rw [hrow]
          apply List.ext_getElem?
          intro j
          simp only [storeRow, List.getElem?_set, cellsI_get, cellsFrom_length]
          by_cases hj : j < sz
          · by_cases ec : c = j
            · subst ec; simp [hj]
            · have : (j == c) = false := by simpa using Ne.symm ec
              simp [hj, ec, this]
          · by_cases ec : c = j
            · subst ec; simp [hj]
            · simp [hj, ec]
        · have : (a == i) = false := by simpa using Ne.symm e
          simp [e, this]
      · rw [List.getElem?_eq_none (l := List.range n) (by simp; omega)]
        by_cases e : i = a
        · subst e; omega
        · simp [e]
    · simp only [hk, decide_false, cond_false]
      exact gen
  · exact gen

theorem storeK_s {lo : List (Nat × List AV)} {hp : List KB} {n0 ty : Nat} {p v : AV} {k : KE → Option β} (h : storeK T lo hp n0 ty p v k = some r) : ∃ e : KE, storeA T lo (absH hp) n0 ty p v = some e.abs ∧ k e = some r := by
  unfold storeK at h
  simp only [Option.bind_eq_some_iff] at h
  obtain ⟨ti, h1, h⟩ := h
  obtain ⟨h2, h⟩ := bif_k h
  simp only [Bool.and_eq_true, decide_eq_true_eq] at h2
  unfold storeA
  simp only [h1, h2, and_self, if_true]
  split at h
  · simp only [Option.bind_eq_some_iff] at h
    obtain ⟨row, h3, h⟩ := h
    obtain ⟨h4, h⟩ := if_k h
    exact ⟨_, by simp only [h3, h4, if_true, KE.abs, storeRowK_eq, Option.map_none], h⟩
  · obtain ⟨b, h3, hf, h⟩ := freshK_s h
    obtain ⟨row, h4, h⟩ := rowK_s h
    obtain ⟨h5, h⟩ := if_k h
    refine ⟨_, ?_, h⟩
    simp only [hf, show b.abs.rows = b.r.list from rfl, h4, h5, if_true, KE.abs, Option.map_some, set_abs, put_list h4]
  · cases h

theorem varK_s {esc : Bool} {hp : List KB} {dst : Option Nat} {ty : Nat} {cs : List AV} {k : KE → Option β} (h : varK esc hp dst ty cs k = some r) : ∃ e : KE, varA esc (absH hp) dst ty cs = some e.abs ∧ k e = some r := by
  unfold varK at h
  unfold varA
  split at h
  · cases esc with
    | true =>
      simp only [cond_true] at h ⊢
      obtain ⟨h1, h⟩ := if_k h
      exact ⟨_, by rw [if_pos h1]; simp only [KE.abs, Option.map_some, absH_app, absH_len]; rfl, h⟩
    | false => exact ⟨_, rfl, h⟩
  · cases h

theorem indexAddrK_s {hp : List KB} {ty : Nat} {x i : AV} {k : AV → Option β} (h : indexAddrK T hp ty x i k = some r) : ∃ v, indexAddrA T (absH hp) ty x i = some v ∧ k v = some r := by
  unfold indexAddrK at h
  split at h
  · split at h
    · obtain ⟨b, h1, hf, h⟩ := freshK_s h
      simp only [Option.bind_eq_some_iff] at h
      obtain ⟨⟨e, te⟩, h2, h⟩ := h
      obtain ⟨h3, h⟩ := if_k h
      obtain ⟨h4, h⟩ := if_k h
      obtain ⟨h5, h⟩ := if_k h
      exact ⟨_, by simp only [indexAddrA, hf, Option.bind_some, h2]; rw [if_pos ⟨h3, h4.1, h4.2, by rw [show b.abs.rows = b.r.list from rfl, KR.len_eq]; exact h5⟩], h⟩
    · obtain ⟨b, h1, hf, h⟩ := freshK_s h
      simp only [Option.bind_eq_some_iff] at h
      obtain ⟨⟨e, te⟩, h2, h⟩ := h
      obtain ⟨h3, h⟩ := if_k h
      obtain ⟨h4, h⟩ := if_k h
      exact ⟨_, by simp only [indexAddrA, hf, Option.bind_some, h2]; rw [if_pos ⟨h3, h4⟩], h⟩
    · rename_i ii _ sz rows
      simp only [Option.bind_eq_some_iff] at h
      obtain ⟨⟨e, te⟩, h2, h⟩ := h
      obtain ⟨h3, h⟩ := if_k h
      obtain ⟨h4, h⟩ := if_k h
      refine ⟨_, ?_, h⟩
      have := rowsAt_get rows 0 _ (Nat.zero_le _) (show ii.toNat < 0 + rows.length by omega)
      simp only [Nat.sub_zero] at this
      simp only [indexAddrA, h2, Option.bind_some]
      rw [if_pos ⟨h3, h4.1⟩, this]
      rfl
    · simp only [Option.bind_eq_some_iff] at h
      obtain ⟨⟨e, te⟩, h2, h⟩ := h
      obtain ⟨h3, h⟩ := if_k h
      obtain ⟨h4, h⟩ := if_k h
      exact ⟨_, by simp only [indexAddrA, h2, Option.bind_some]; rw [if_pos ⟨h3, h4⟩], h⟩
    · simp only [Option.bind_eq_some_iff] at h
      obtain ⟨⟨e, te⟩, h2, h⟩ := h
      obtain ⟨h3, h⟩ := if_k h
      obtain ⟨h4, h⟩ := if_k h
      exact ⟨_, by simp only [indexAddrA, h2, Option.bind_some]; rw [if_pos ⟨h3, h4⟩], h⟩
    · simp only [Option.bind_eq_some_iff] at h
      obtain ⟨⟨e, te⟩, h2, h⟩ := h
      obtain ⟨h3, h⟩ := if_k h
      obtain ⟨h4, h⟩ := if_k h
      exact ⟨_, by simp only [indexAddrA, h2, Option.bind_some]; rw [if_pos ⟨h3, h4⟩], h⟩
    · simp only [Option.bind_eq_some_iff] at h
      obtain ⟨⟨n, te⟩, h2, h⟩ := h
      obtain ⟨h4, h⟩ := if_k h
      exact ⟨_, by simp only [indexAddrA, h2, Option.bind_some]; rw [if_pos h4], h⟩
    · simp only [Option.bind_eq_some_iff] at h
      obtain ⟨⟨n, te⟩, h2, h⟩ := h
      obtain ⟨h4, h⟩ := if_k h
      exact ⟨_, by simp only [indexAddrA, h2, Option.bind_some]; rw [if_pos h4], h⟩
    · obtain ⟨b, h1, hf, h⟩ := freshK_s h
      simp only [Option.bind_eq_some_iff] at h
      obtain ⟨⟨n, te⟩, h2, h⟩ := h
      obtain ⟨h4, h⟩ := if_k h
      exact ⟨_, by simp only [indexAddrA, hf, Option.bind_some, h2]; rw [if_pos h4], h⟩
    · cases h
  · cases h

theorem indexK_s {ty : Nat} {x i : AV} {k : AV → Option β} (h : indexK T ty x i k = some r) : ∃ v, indexA T ty x i = some v ∧ k v = some r := by
  unfold indexK at h
  split at h
  · split at h
    · obtain ⟨h1, h⟩ := bif_k h
      obtain ⟨h2, h⟩ := if_k h
      refine ⟨_, ?_, h⟩
      simp only [indexA, h1, cond_true, h2.1, if_true]
      rw [byteAt_get (by omega)]
      rfl
    · simp only [Option.bind_eq_some_iff] at h
      obtain ⟨⟨n, te⟩, h2, h⟩ := h
      obtain ⟨h4, h⟩ := if_k h
      obtain ⟨v, h5, h⟩ := partK_s h
      exact ⟨v, by simp only [indexA, h2, Option.bind_some]; rw [if_pos h4]; exact h5, h⟩
    · cases h
  · cases h

theorem cutK_s {n : Nat} {lo hi : Option Int} {k : Nat → Nat → Option β} (h : cutK n lo hi k = some r) : ∃ a b, cut n lo hi = some (a, b) ∧ k a b = some r := by
  unfold cutK at h
  obtain ⟨h1, h⟩ := if_k h
  exact ⟨_, _, by unfold cut; rw [if_pos h1], h⟩

theorem sliceK_s {hp : List KB} {ty : Nat} {x : AV} {lo hi mx : Option Int} {k : AV → Option β} (h : sliceK T hp ty x lo hi mx k = some r) : ∃ v, sliceA T (absH hp) ty x lo hi mx = some v ∧ k v = some r := by
  unfold sliceK at h
  split at h
  · split at h
    · obtain ⟨h1, h⟩ := bif_k h
      obtain ⟨a, b, h2, h⟩ := cutK_s h
      exact ⟨_, by simp only [sliceA, h1, cond_true, h2, Option.map_some], h⟩
    · simp only [Option.bind_eq_some_iff] at h
      obtain ⟨e, h2, h⟩ := h
      obtain ⟨l, m, h6, h⟩ := cutK_s h
      exact ⟨_, by simp only [sliceA, h2, Option.bind_some, h6, Option.map_some], h⟩
    · simp only [Option.bind_eq_some_iff] at h
      obtain ⟨e, h2, h⟩ := h
      obtain ⟨l, m, h6, h⟩ := cutK_s h
      exact ⟨_, by simp only [sliceA, h2, Option.bind_some, h6, Option.map_some], h⟩
    · simp only [Option.bind_eq_some_iff] at h
      obtain ⟨⟨e, te⟩, h2, h⟩ := h
      obtain ⟨b, h3, hf, h⟩ := freshK_s h
      obtain ⟨h4, h⟩ := if_k h
      obtain ⟨h5, h⟩ := if_k h
      obtain ⟨l, m, h6, h⟩ := cutK_s h
      exact ⟨_, by simp only [sliceA, h2, Option.bind_some, hf]; rw [if_pos ⟨h4, by rw [show b.abs.rows = b.r.list from rfl, KR.len_eq]; exact h5⟩, h6]; rfl, h⟩
    · simp only [Option.bind_eq_some_iff] at h
      obtain ⟨⟨e, te⟩, h2, h⟩ := h
      obtain ⟨h4, h⟩ := if_k h
      obtain ⟨l, m, h6, h⟩ := cutK_s h
      exact ⟨_, by simp only [sliceA, h2, Option.bind_some]; rw [if_pos h4, h6]; rfl, h⟩
    · simp only [Option.bind_eq_some_iff] at h
      obtain ⟨⟨e, te⟩, h2, h⟩ := h
      obtain ⟨h4, h⟩ := if_k h
      obtain ⟨l, m, h6, h⟩ := cutK_s h
      exact ⟨_, by simp only [sliceA, h2, Option.bind_some]; rw [if_pos h4, h6]; rfl, h⟩
    · simp only [Option.bind_eq_some_iff] at h
      obtain ⟨⟨e, te⟩, h2, h⟩ := h
      obtain ⟨h4, h⟩ := if_k h
      obtain ⟨l, m, h6, h⟩ := cutK_s h
      exact ⟨_, by simp only [sliceA, h2, Option.bind_some]; rw [if_pos h4, h6]; rfl, h⟩
    · simp only [Option.bind_eq_some_iff] at h
      obtain ⟨⟨n, te⟩, h2, h⟩ := h
      obtain ⟨b, h3, hf, h⟩ := freshK_s h
      obtain ⟨h4, h⟩ := if_k h
      obtain ⟨h5, h⟩ := if_k h
      obtain ⟨l, m, h6, h⟩ := cutK_s h
      exact ⟨_, by simp only [sliceA, h2, Option.bind_some, hf]; rw [if_pos ⟨h4, by rw [show b.abs.rows = b.r.list from rfl, KR.len_eq]; exact h5⟩, h6]; rfl, h⟩
    · cases h
  · obtain ⟨h1, h⟩ := if_k h
    split at h
    · simp only [Option.bind_eq_some_iff] at h
      obtain ⟨e, h2, h⟩ := h
      exact ⟨_, by simp only [sliceA]; rw [if_pos h1, h2]; rfl, h⟩
    · simp only [Option.bind_eq_some_iff] at h
      obtain ⟨e, h2, h⟩ := h
      exact ⟨_, by simp only [sliceA]; rw [if_pos h1, h2]; rfl, h⟩
    · simp only [Option.bind_eq_some_iff] at h
      obtain ⟨e, h2, h⟩ := h
      obtain ⟨b, h3, hf, h⟩ := freshK_s h
      exact ⟨_, by simp only [sliceA]; rw [if_pos h1, h2]; simp only [Option.bind_some, hf, Option.map_some], h⟩
    · simp only [Option.bind_eq_some_iff] at h
      obtain ⟨e, h2, h⟩ := h
      exact ⟨_, by simp only [sliceA]; rw [if_pos h1, h2]; rfl, h⟩
    · simp only [Option.bind_eq_some_iff] at h
      obtain ⟨e, h2, h⟩ := h
      exact ⟨_, by simp only [sliceA]; rw [if_pos h1, h2]; rfl, h⟩
    · cases h

theorem lenK_s {hp : List KB} {ty : Nat} {x : AV} {k : AV → Option β} (h : lenK T hp ty x k = some r) : ∃ v, lenA T (absH hp) ty x = some v ∧ k v = some r := by
  unfold lenK at h
  split at h
  · simp only [Option.bind_eq_some_iff] at h
    obtain ⟨e, h2, h⟩ := h
    obtain ⟨b, h3, hf, h⟩ := freshK_s h
    exact ⟨_, by simp only [lenA, h2, Option.bind_some, hf, Option.map_some], h⟩
  · simp only [Option.bind_eq_some_iff] at h
    obtain ⟨e, h2, h⟩ := h
    obtain ⟨b, h3, hf, h⟩ := freshK_s h
    exact ⟨_, by simp only [lenA, h2, Option.bind_some, hf, Option.map_some], h⟩
  · rename_i hn1 hn2
    simp only [Option.bind_eq_some_iff] at h
    obtain ⟨v, h1, h⟩ := h
    refine ⟨v, ?_, h⟩
    cases x <;> first | exact h1 | exact absurd rfl (hn1 _ _ _ _) | exact absurd rfl (hn2 _ _ _ _ _)

theorem rowsK_s {hp : List KB} {size : Nat} {x : AV} {k : KR → Option β} (h : rowsK hp size x k = some r) : ∃ v, rowsA (absH hp) size x = some v.list ∧ k v = some r := by
  unfold rowsK at h
  split at h
  · obtain ⟨b, h3, hf, h⟩ := freshK_s h
    obtain ⟨h4, h⟩ := if_k h
    obtain ⟨h5, h⟩ := if_k h
    refine ⟨_, ?_, h⟩
    simp only [rowsA, hf, Option.bind_some]
    rw [if_pos ⟨h4, by rw [show b.abs.rows = b.r.list from rfl, KR.len_eq]; exact h5⟩, KR.cut_list _ _ _ h5]
    rfl
  · exact ⟨_, rfl, h⟩
  · exact ⟨_, rfl, h⟩
  · obtain ⟨h1, h⟩ := if_k h
    exact ⟨_, by simp only [rowsA, h1, if_true]; rfl, h⟩
  · obtain ⟨h1, h⟩ := if_k h
    exact ⟨_, by simp only [rowsA, h1, if_true]; rfl, h⟩
  · obtain ⟨h1, h⟩ := if_k h
    exact ⟨_, by simp only [rowsA, h1, if_true]; rfl, h⟩
  · obtain ⟨h1, h⟩ := if_k h
    exact ⟨_, by simp only [rowsA, h1, if_true, strRows_list], h⟩
  · cases h

theorem onto_list (ty : Bool) (zero : List AV) (x : KR) : (onto ty zero x).list = x.list := by
  unfold onto
  split
  · exact KR.opt_list _ _ _
  · rfl

theorem append_nil {s : AV} (hs : s = .nilsl ∨ s = .esl) {ty : Bool} {hp : List KB} {n0 e : Nat} {te : TI} {new : KR} {k : KE → Option β}
    (h : (bif decide (new.len = 0) then k { v := s } else bif decide (new.len ≤ most) then k { v := .sl hp.length 0 new.len new.len, hp := some (hp ++ [⟨e, te.size, onto ty te.zero new⟩]) } else none) = some r) :
    ∃ v : KE, appendA (absH hp) n0 e te s new.list = some v.abs ∧ k v = some r := by
  have hl := KR.len_eq new
  by_cases h0 : new.len = 0
  · simp only [h0, decide_true, cond_true] at h
    have : new.list = [] := List.length_eq_zero_iff.1 (hl.trans h0)
    rw [this]
    rcases hs with rfl | rfl <;> exact ⟨_, rfl, h⟩
  · simp only [h0, decide_false, cond_false] at h
    obtain ⟨h1, h⟩ := if_k h
    refine ⟨_, ?_, h⟩
    obtain ⟨a, l, hal⟩ : ∃ a l, new.list = a :: l := by
      cases hx : new.list with
      | nil => rw [hx] at hl; simp at hl; omega
      | cons a l => exact ⟨a, l, rfl⟩
    have hlen : (a :: l).length = new.len := by rw [← hal]; exact hl
    have habs : absH [(⟨e, te.size, onto ty te.zero new⟩ : KB)] = [⟨e, te.size, a :: l⟩] := by
      show [(⟨e, te.size, (onto ty te.zero new).list⟩ : Blk)] = _
      rw [onto_list, hal]
    rcases hs with rfl | rfl
    · rw [hal]
      simp only [appendA, hlen, KE.abs, Option.map_some, absH_app, absH_len, habs]
      rw [if_pos h1]
    · rw [hal]
      simp only [appendA, hlen, KE.abs, Option.map_some, absH_app, absH_len, habs]
      rw [if_pos h1]

theorem appendK_s {ov ty : Bool} {hp : List KB} {n0 e : Nat} {te : TI} {s : AV} {new : KR} {k : KE → Option β} (h : appendK ov ty hp n0 e te s new k = some r) : ∃ v : KE, appendA (absH hp) n0 e te s new.list = some v.abs ∧ k v = some r := by
  unfold appendK at h
  split at h
  · rename_i q n t
    obtain ⟨b, h1, hf, h⟩ := freshK_s h
    obtain ⟨h2, h⟩ := if_k h
    obtain ⟨h3, h⟩ := if_k h
    have hl := KR.len_eq new
    by_cases hnt : n = t
    · simp only [hnt, decide_true, cond_true] at h
      subst hnt
      refine ⟨_, ?_, h⟩
      simp only [appendA, hf, hl]
      rw [if_pos ⟨h2.1, h2.2, h3⟩, if_pos trivial]
      simp only [KE.abs, Option.map_some, set_abs, KR.app_list]
      rfl
    · cases ov with
      | false => simp [hnt] at h
      | true =>
      simp only [hnt, decide_false, cond_false] at h
      obtain ⟨h4, h⟩ := if_k h
      obtain ⟨h5, h⟩ := if_k h
      refine ⟨_, ?_, h⟩
      simp only [appendA, hf, hl]
      rw [if_pos ⟨h2.1, h2.2, h3⟩, if_neg hnt, if_pos h4]
      simp only [KE.abs, Option.map_some, set_abs, KR.over_list _ _ _ h5, hl]
      rfl
  · exact append_nil (.inl rfl) h
  · exact append_nil (.inr rfl) h
  · cases h

theorem clearK_s {hp : List KB} {n0 : Nat} {zero : List AV} {x : AV} {k : KE → Option β} (h : clearK hp n0 zero x k = some r) : ∃ e : KE, clearA (absH hp) n0 zero x = some e.abs ∧ k e = some r := by
  unfold clearK at h
  split at h
  · exact ⟨_, rfl, h⟩
  · exact ⟨_, rfl, h⟩
  · rename_i q r0 n t
    obtain ⟨b, h1, hf, h⟩ := freshK_s h
    obtain ⟨h2, h⟩ := if_k h
    obtain ⟨h3, h⟩ := if_k h
    refine ⟨_, ?_, h⟩
    have hl : (b.r.madeAs n zero).len = n := (KR.len_eq _).symm.trans ((congrArg List.length (KR.madeAs_list b.r n zero)).trans List.length_replicate)
    simp only [clearA, hf, Option.bind_some]
    rw [if_pos ⟨by rw [show b.abs.rows = b.r.list from rfl, KR.len_eq]; exact h2, h3⟩]
    simp only [KE.abs, Option.map_some, set_abs]
    rw [KR.over_list _ _ _ (by rw [hl]; exact h2), KR.madeAs_list, List.length_replicate]
    rfl
  · cases h

theorem foldI_congr {f g : Int → Int → Int} (h : ∀ x y, f x y = g x y) : ∀ (l : List AV) (k : IntKind) (n : Int), foldI f k n l = foldI g k n l
  | [], k, n => rfl
  | x :: l, k, n => by cases x <;> simp [foldI, h, foldI_congr h l]

theorem builtinK_s {ov ty : Bool} {st : KS} {b : Builtin} {tys : List Nat} {vs : List AV} {k : KE → Option β} (h : builtinK T ov ty st b tys vs k = some r) : ∃ e : KE, builtinA T st.abs b tys vs = some e.abs ∧ k e = some r := by
  unfold builtinK at h
  split at h
  · obtain ⟨v, h1, h⟩ := lenK_s h
    exact ⟨_, by simp only [builtinA, KS.abs, h1, val, Option.map_some]; rfl, h⟩
  · simp only [Option.bind_eq_some_iff] at h
    obtain ⟨e, h1, h⟩ := h
    exact ⟨_, by simp only [builtinA, h1, Option.map_some]; rfl, h⟩
  · rename_i ty1 ty2 s x
    simp only [Option.bind_eq_some_iff] at h
    obtain ⟨⟨e, te⟩, h1, h⟩ := h
    obtain ⟨h2, h⟩ := if_k h
    simp only [builtinA, h1, Option.bind_some]
    rw [if_pos h2]
    cases hi : isInt T ty2 with
    | true =>
      rw [hi] at h
      simp only [cond_true] at h ⊢
      split at h
      · obtain ⟨h3, h⟩ := if_k h
        obtain ⟨v, h4, h⟩ := appendK_s h
        rw [KR.made_list] at h4
        exact ⟨v, by simp only; rw [if_pos h3]; exact h4, h⟩
      · cases h
    | false =>
      rw [hi] at h
      simp only [cond_false] at h ⊢
      obtain ⟨h3, h⟩ := bif_k h
      obtain ⟨new, h4, h⟩ := rowsK_s h
      obtain ⟨v, h5, h⟩ := appendK_s h
      exact ⟨v, by rw [h3]; simp only [cond_true, KS.abs, h4, Option.bind_some]; exact h5, h⟩
  · simp only [Option.bind_eq_some_iff] at h
    obtain ⟨⟨e, te⟩, h1, h⟩ := h
    obtain ⟨v, h2, h⟩ := clearK_s h
    exact ⟨v, by simp only [builtinA, h1, Option.bind_some]; exact h2, h⟩
  · simp only [Option.bind_eq_some_iff] at h
    obtain ⟨v, h1, h⟩ := h
    refine ⟨_, ?_, h⟩
    simp only [builtinA]
    rw [foldI_congr (g := fun x y => bif decide (y > x) then y else x) (fun x y => by by_cases hc : y > x <;> simp [hc]), h1]
    rfl
  · simp only [Option.bind_eq_some_iff] at h
    obtain ⟨v, h1, h⟩ := h
    refine ⟨_, ?_, h⟩
    simp only [builtinA]
    rw [foldI_congr (g := fun x y => bif decide (y < x) then y else x) (fun x y => by by_cases hc : y < x <;> simp [hc]), h1]
    rfl
  · cases h

theorem pickK_s {c a b : AV} {k : AV → Option β} (h : pickK c a b k = some r) : ∃ v, pickA c a b = some v ∧ k v = some r := by
  unfold pickK at h
  split at h
  · rename_i t
    refine ⟨_, ?_, h⟩
    rw [selV_eq]
    unfold pickA
    cases a <;> cases b <;> cases t <;> rfl
  · cases h

theorem convK_s {hp : List KB} {src dst : Nat} {x : AV} {k : AV → Option β} (h : convK T hp src dst x k = some r) : ∃ v, convA T (absH hp) src dst x = some v ∧ k v = some r := by
  unfold convK at h
  simp only [Option.bind_eq_some_iff] at h
  obtain ⟨ts, h1, ti, h2, h⟩ := h
  simp only [convA, h1, h2, Option.bind_some]
  split at h
  · rename_i kk hd
    rw [hd]
    split at h
    · exact ⟨_, rfl, h⟩
    · cases h
  · rename_i hd
    rw [hd]
    split at h
    · exact ⟨_, rfl, h⟩
    · obtain ⟨h3, h⟩ := bif_k h
      obtain ⟨rows, h4, h⟩ := rowsK_s h
      simp only [Option.bind_eq_some_iff] at h
      obtain ⟨s, h5, h⟩ := h
      obtain ⟨l, h6, rfl⟩ := bytesK_s h5
      exact ⟨_, by simp only [h3, cond_true, h4, Option.bind_some, h6, Option.map_some], h⟩
    · cases h
  · cases h

/-- the calls with what comes behind are calls -/
def RK (rec : RecK β) (R : Rec) : Prop := ∀ f vs hp k r, rec f vs hp k = some r → ∃ v hp' c, R f vs (absH hp) = some (v, absH hp', c) ∧ k v hp' c = some r

theorem callK_s {rec : RecK β} {R : Rec} {hp : List KB} {n0 f : Nat} {vs : List AV} {k : KE → Option β} (hR : RK rec R) (h : callK rec hp n0 f vs k = some r) : ∃ e : KE, callA R (absH hp) n0 f vs = some e.abs ∧ k e = some r := by
  unfold callK at h
  obtain ⟨h1, h⟩ := bif_k h
  obtain ⟨v, hp', c, h2, h⟩ := hR _ _ _ _ _ h
  exact ⟨_, by simp only [callA, h1, cond_true, h2, Option.map_some]; rfl, h⟩

theorem effK_s {rec : RecK β} {R : Rec} {cfg : Cfg} {ty : Typed} {o : Oper} {st : KS} {k : KE → Option β} (hR : RK rec R) (h : effK T rec cfg ty o st k = some r) : ∃ e : KE, eff T R cfg o st.abs = some e.abs ∧ k e = some r := by
  have henv : st.abs.env = st.env := rfl
  have hlo : st.abs.lo = st.lo := rfl
  have hhp : st.abs.hp = absH st.hp := rfl
  have hn0 : st.abs.n0 = st.n0 := rfl
  unfold effK at h
  unfold eff
  simp only [henv, hlo, hhp, hn0]
  split at h
  · rename_i ho
    simp only [Option.bind_eq_some_iff] at h
    obtain ⟨v, h1, h⟩ := h
    exact ⟨_, by rw [ho]; simp only [h1, val, Option.map_some]; rfl, h⟩
  · rename_i ho
    simp only [Option.bind_eq_some_iff] at h
    obtain ⟨v, h1, h⟩ := h
    exact ⟨_, by rw [ho]; simp only [h1, val, Option.map_some]; rfl, h⟩
  · rename_i ho
    simp only [Option.bind_eq_some_iff] at h
    obtain ⟨c, h1, a, h2, b, h3, h⟩ := h
    obtain ⟨v, h4, h⟩ := pickK_s h
    exact ⟨_, by rw [ho]; simp only [h1, h2, h3, Option.bind_some, h4, val, Option.map_some]; rfl, h⟩
  · rename_i ho
    simp only [Option.bind_eq_some_iff] at h
    obtain ⟨ti, h1, h⟩ := h
    obtain ⟨e, h2, h⟩ := varK_s h
    exact ⟨_, by rw [ho]; simp only [h1, Option.bind_some, h2], h⟩
  · rename_i ho
    simp only [Option.bind_eq_some_iff] at h
    obtain ⟨ti, h1, v, h2, h⟩ := h
    obtain ⟨h3, h⟩ := bif_k h
    simp only [Bool.and_eq_true, decide_eq_true_eq] at h3
    obtain ⟨e, h4, h⟩ := varK_s h
    exact ⟨_, by rw [ho]; simp only [h1, h2, Option.bind_some]; rw [if_pos h3]; exact h4, h⟩
  · rename_i ho
    simp only [Option.bind_eq_some_iff] at h
    obtain ⟨ps, h1, cs, h2, h⟩ := h
    exact ⟨_, by rw [ho]; simp only [h1, h2, Option.bind_some, val, Option.map_some]; rfl, h⟩
  · rename_i ho
    simp only [Option.bind_eq_some_iff] at h
    obtain ⟨⟨e, te⟩, h1, ps, h2, h⟩ := h
    obtain ⟨h3, h⟩ := if_k h
    simp only [Option.bind_eq_some_iff] at h
    obtain ⟨rows, h4, h⟩ := h
    rw [ho]
    simp only [h1, h2, Option.bind_some]
    rw [if_pos h3]
    simp only [h4, Option.bind_some]
    cases hv : cfg.virt.contains (o.dst.getD 0) with
    | true =>
      rw [hv] at h
      exact ⟨_, rfl, h⟩
    | false =>
      rw [hv] at h
      refine ⟨_, ?_, h⟩
      simp only [cond_false, KE.abs, Option.map_some, absH_app, absH_len]
      simp only [absH, List.map_cons, List.map_nil, KB.abs, KR.opt_list]
  · rename_i ho
    simp only [Option.bind_eq_some_iff] at h
    obtain ⟨p, h1, h⟩ := h
    obtain ⟨v, h2, h⟩ := loadK_s h
    exact ⟨_, by rw [ho]; simp only [h1, Option.bind_some, h2, val, Option.map_some]; rfl, h⟩
  · rename_i ho
    simp only [Option.bind_eq_some_iff] at h
    obtain ⟨p, h1, v, h2, h⟩ := h
    obtain ⟨e, h3, h⟩ := storeK_s h
    exact ⟨e, by rw [ho]; simp only [h1, Option.bind_some, h2, h3], h⟩
  · rename_i ho
    simp only [Option.bind_eq_some_iff] at h
    obtain ⟨p, h1, h⟩ := h
    rw [ho]
    simp only [h1, Option.bind_some]
    split at h
    · exact ⟨_, rfl, h⟩
    · exact ⟨_, rfl, h⟩
    · obtain ⟨b, _, hf, h⟩ := freshK_s h
      exact ⟨_, by simp only [hf, Option.map_some]; rfl, h⟩
    · exact ⟨_, rfl, h⟩
    · cases h
  · rename_i ho
    simp only [Option.bind_eq_some_iff] at h
    obtain ⟨a, h1, b, h2, h⟩ := h
    obtain ⟨v, h3, h⟩ := binHK_s h
    exact ⟨_, by rw [ho]; simp only [h1, Option.bind_some, h2, h3, val, Option.map_some]; rfl, h⟩
  · rename_i ho
    simp only [Option.bind_eq_some_iff] at h
    obtain ⟨a, h1, v, h3, h⟩ := h
    exact ⟨_, by rw [ho]; simp only [h1, Option.bind_some, h3, val, Option.map_some]; rfl, h⟩
  · rename_i ho
    simp only [Option.bind_eq_some_iff] at h
    obtain ⟨a, h1, h⟩ := h
    obtain ⟨v, h3, h⟩ := convK_s h
    exact ⟨_, by rw [ho]; simp only [h1, Option.bind_some, h3, val, Option.map_some]; rfl, h⟩
  · rename_i ho
    split at h
    · obtain ⟨h1, h⟩ := if_k h
      simp only [Option.bind_eq_some_iff] at h
      obtain ⟨vs, h2, h⟩ := h
      obtain ⟨h3, h⟩ := bif_k h
      exact ⟨_, by rw [ho]; simp only [h1, if_true, h2, Option.bind_some, h3, cond_true]; rfl, h⟩
    · cases h
  · rename_i ho
    simp only [Option.bind_eq_some_iff] at h
    obtain ⟨⟨e, te⟩, h1, l, h2, c, h3, h⟩ := h
    split at h
    · obtain ⟨h4, h⟩ := if_k h
      obtain ⟨h5, h⟩ := if_k h
      refine ⟨_, ?_, h⟩
      rw [ho]
      simp only [h1, Option.bind_some, h2, h3]
      rw [if_pos ⟨h4.1, h4.2, h5⟩]
      simp only [KE.abs, Option.map_some, absH_app, absH_len]
      simp only [absH, List.map_cons, List.map_nil, KB.abs, KR.made_list]
    · cases h
  · rename_i ho
    simp only [Option.bind_eq_some_iff] at h
    obtain ⟨v, h1, l, h2, u, h3, m, h4, h⟩ := h
    obtain ⟨w, h5, h⟩ := sliceK_s h
    exact ⟨_, by rw [ho]; simp only [h1, Option.bind_some, h2, h3, h4, h5, val, Option.map_some]; rfl, h⟩
  · rename_i ho
    simp only [Option.bind_eq_some_iff] at h
    obtain ⟨p, h1, ⟨off, tf⟩, h2, h⟩ := h
    rw [ho]
    simp only [h1, Option.bind_some, fieldAddrA, h2]
    by_cases h3 : tf.size = 0
    · simp [h3] at h
    · simp only [h3, decide_false, cond_false] at h
      rw [if_neg h3]
      split at h
      · exact ⟨_, rfl, h⟩
      · exact ⟨_, rfl, h⟩
      · obtain ⟨b, _, hf, h⟩ := freshK_s h
        exact ⟨_, by simp only [hf, Option.map_some, val]; rfl, h⟩
      · cases h
  · rename_i ho
    simp only [Option.bind_eq_some_iff] at h
    obtain ⟨v, h1, h⟩ := h
    rw [ho]
    split at h
    · simp only [Option.bind_eq_some_iff] at h
      obtain ⟨⟨off, tf⟩, h2, h⟩ := h
      obtain ⟨v, h3, h⟩ := partK_s h
      exact ⟨_, by simp only [h1, Option.bind_some, fieldA, h2, h3, val, Option.map_some]; rfl, h⟩
    · cases h
  · rename_i ho
    simp only [Option.bind_eq_some_iff] at h
    obtain ⟨v, h1, i, h2, h⟩ := h
    obtain ⟨w, h5, h⟩ := indexAddrK_s h
    exact ⟨_, by rw [ho]; simp only [h1, Option.bind_some, h2, h5, val, Option.map_some]; rfl, h⟩
  · rename_i ho
    simp only [Option.bind_eq_some_iff] at h
    obtain ⟨v, h1, i, h2, h⟩ := h
    obtain ⟨w, h5, h⟩ := indexK_s h
    exact ⟨_, by rw [ho]; simp only [h1, Option.bind_some, h2, h5, val, Option.map_some]; rfl, h⟩
  · rename_i ho
    simp only [Option.bind_eq_some_iff] at h
    obtain ⟨v, h1, h⟩ := h
    rw [ho]
    simp only [h1, Option.bind_some]
    split at h
    · simp only [Option.bind_eq_some_iff] at h
      obtain ⟨v, h2, h⟩ := h
      exact ⟨_, by simp only [h2, val, Option.map_some]; rfl, h⟩
    · cases h
  · rename_i c ho
    simp only [Option.bind_eq_some_iff] at h
    obtain ⟨vs, h1, h⟩ := h
    rw [ho]
    simp only [h1, Option.bind_some]
    split at h
    · rename_i f hc
      obtain ⟨e, h2, h⟩ := callK_s hR h
      exact ⟨e, by simp only [hc, h2], h⟩
    · rename_i x hne hc
      simp only [Option.bind_eq_some_iff] at h
      obtain ⟨v, h2, h⟩ := h
      split at h
      · obtain ⟨e, h3, h⟩ := callK_s hR h
        refine ⟨e, ?_, h⟩
        simp only [hc]
        cases x with
        | func f => exact absurd rfl (hne f)
        | _ => simp only [h2, Option.bind_some]; exact h3
      · cases h
    · rename_i b hc
      obtain ⟨e, h2, h⟩ := builtinK_s h
      exact ⟨e, by simp only [hc, h2], h⟩
    · cases h
  · cases h

end
end Go.Proofs.Ythbmlioknnhleaa.Abs

/- The abstract machine run with continuations over typed blocks: what it gives is what the machine gives: code, functions, tables. -/
namespace Go.Proofs.Ythbmlioknnhleaa.Abs
open Go

section
variable {β : Type} {T : Nat → Option TI} {r : β}

theorem learn_id {d : Nat} {b : Bool} : ∀ {env : List (Nat × AV)}, env.lookup d = some (.bool b) → learn d b env = env
  | [], h => by cases h
  | (t, v) :: l, h => by
    simp only [learn]
    rw [List.lookup_cons] at h
    by_cases ht : t = d
    · subst ht
      simp at h ⊢
      exact h.symm
    · have h1 : (t == d) = false := by simpa using ht
      have h2 : (d == t) = false := by simpa using Ne.symm ht
      simp only [h1, cond_false, h2] at h ⊢
      rw [learn_id h]

theorem guardK_s {ops : Array Oper} {o : Oper} {st : KS} {kt kf : KS → Option β} (h : guardK ops o st kt kf = some r) : ∃ g, guardA ops o st.abs = some g ∧ (if g = true then kt st else kf st) = some r := by
  unfold guardK at h
  unfold guardA
  split at h
  · rename_i hg
    exact ⟨true, by rw [hg], by simpa using h⟩
  · rename_i j want hg
    simp only [Option.bind_eq_some_iff] at h
    obtain ⟨d, ⟨oj, ho, hd⟩, h⟩ := h
    rw [hg]
    simp only [ho, Option.bind_some, hd, show st.abs.env = st.env from rfl]
    split at h
    · rename_i b hb
      have hget : get st.env d = .bool b := by unfold get; rw [hb]; rfl
      refine ⟨b == want, by rw [hget], ?_⟩
      have l1 : b = true → learn d true st.env = st.env := fun e => learn_id (by rw [hb, e])
      have l2 : b = false → learn d false st.env = st.env := fun e => learn_id (by rw [hb, e])
      cases want <;> cases b <;> simp at h ⊢
      · rw [l2 rfl] at h; exact h
      · rw [l1 rfl] at h; exact h
      · rw [l2 rfl] at h; exact h
      · rw [l1 rfl] at h; exact h
    · rename_i hb
      have hget : get st.env d = .tup [] := by unfold get; rw [hb]; rfl
      exact ⟨false, by rw [hget], by simpa using h⟩
    · cases h

theorem app_abs (st : KS) (dst : Option Nat) (e : KE) : (st.app dst e).abs = st.abs.app dst e.abs := by
  have h : (match selfK dst e.v with | some d => clr d st.env | none => st.env) = (match e.v with | .lptr d 0 => (match dst with | some d' => bif d == d' then clr d st.env else st.env | none => st.env) | _ => st.env) := by
    unfold selfK
    cases e.v with
    | lptr d c =>
      cases dst with
      | none => cases c <;> rfl
      | some d' => cases h : d == d' <;> cases c <;> simp [h]
    | _ => cases dst <;> rfl
  obtain ⟨v, lo, hp, cl, low⟩ := e
  cases hp with
  | none => exact congrArg (fun env => ({ env := putE env dst v, lo := putL st.lo lo, hp := absH st.hp, n0 := st.n0, cl := st.cl && cl } : St)) h
  | some hp => exact congrArg (fun env => ({ env := putE env dst v, lo := putL st.lo lo, hp := absH hp, n0 := st.n0, cl := st.cl && cl } : St)) h

theorem stepK_s {rec : RecK β} {R : Rec} {cfg : Cfg} {ty : Typed} {ops : Array Oper} {o : Oper} {st : KS} {k : KS → Option β} (hR : RK rec R) (h : stepK T rec cfg ty ops o st k = some r) : ∃ st' : KS, stepA T R cfg ops o st.abs = some st'.abs ∧ k st' = some r := by
  unfold stepK at h
  obtain ⟨g, hg, h⟩ := guardK_s h
  unfold stepA
  cases g with
  | true =>
    simp only [if_true] at h
    obtain ⟨e, he, h⟩ := effK_s hR h
    exact ⟨_, by simp only [hg, Option.bind_some, cond_true, he, Option.map_some, app_abs], h⟩
  | false =>
    simp only [Bool.false_eq_true, if_false] at h
    exact ⟨_, by simp only [hg, Option.bind_some, cond_false]; rfl, h⟩

theorem opsK_s {rec : RecK β} {R : Rec} {cfg : Cfg} {ty : Typed} {ops : Array Oper} (hR : RK rec R) : ∀ (l : List Oper) (st : KS) (k : KS → Option β), opsK T rec cfg ty ops l st k = some r → ∃ st' : KS, runOps T R cfg ops l st.abs = some st'.abs ∧ k st' = some r
  | [], st, k, h => ⟨st, rfl, h⟩
  | o :: l, st, k, h => by
    simp only [opsK] at h
    obtain ⟨s1, h1, h⟩ := stepK_s hR h
    obtain ⟨s2, h2, h⟩ := opsK_s hR l s1 k h
    exact ⟨s2, by simp only [runOps, h1, Option.bind_some, h2], h⟩

theorem foot_abs (o : Oper) (st : KS) (e : KE) : footK o st e = foot o st.abs e.abs := by
  obtain ⟨v, lo, hp, cl, low⟩ := e
  rcases lo with _ | ⟨d, x⟩ <;> cases hp <;> simp [footK, foot, KS.abs, KE.abs, absH_len] <;> (cases v <;> cases o.dst <;> rfl)

theorem stepDK_s {rec : RecK β} {R : Rec} {cfg : Cfg} {ty : Typed} {ops : Array Oper} {o : Oper} {st : KS} {k : KS → Foot → Option β} (hR : RK rec R) (h : stepDK T rec cfg ty ops o st k = some r) : ∃ (st' : KS) (f : Foot), stepD T R cfg ops o st.abs = some (st'.abs, f) ∧ k st' f = some r := by
  unfold stepDK at h
  obtain ⟨g, hg, h⟩ := guardK_s h
  unfold stepD
  cases g with
  | true =>
    simp only [if_true] at h
    obtain ⟨e, he, h⟩ := effK_s hR h
    obtain ⟨h1, h⟩ := bif_k h
    rw [noStaleK_eq] at h1
    exact ⟨_, _, by simp only [hg, Option.bind_some, cond_true, he, show st.abs.env = st.env from rfl, h1, app_abs, foot_abs], h⟩
  | false =>
    simp only [Bool.false_eq_true, if_false] at h
    exact ⟨_, _, by simp only [hg, Option.bind_some, cond_false]; rfl, h⟩

theorem opsDK_s {rec : RecK β} {R : Rec} {cfg : Cfg} {ty : Typed} {ops : Array Oper} (hR : RK rec R) : ∀ (l : List Oper) (st : KS) (k : KS → List Foot → Option β), opsDK T rec cfg ty ops l st k = some r → ∃ (st' : KS) (fs : List Foot), runD T R cfg ops l st.abs = some (st'.abs, fs) ∧ k st' fs = some r
  | [], st, k, h => ⟨st, [], rfl, h⟩
  | o :: l, st, k, h => by
    simp only [opsDK] at h
    obtain ⟨s1, f1, h1, h⟩ := stepDK_s hR h
    obtain ⟨s2, fs, h2, h⟩ := opsDK_s hR l s1 _ h
    exact ⟨s2, f1 :: fs, by simp only [runD, h1, Option.bind_some, h2, Option.map_some], h⟩

theorem regionK_s {rec : RecK β} {R : Rec} {cfg : Cfg} {ty : Typed} {ops : Array Oper} {d : Bool} {st : KS} {k : KS → Option β} (hR : RK rec R) (h : regionK T rec cfg ty ops d st k = some r) : ∃ st' : KS, region T R cfg ops d st.abs = some st'.abs ∧ k st' = some r := by
  unfold regionK at h
  unfold region
  cases d with
  | false => exact opsK_s hR _ _ _ h
  | true =>
    simp only at h
    obtain ⟨h1, h⟩ := bif_k h
    obtain ⟨s, fs, h2, h⟩ := opsDK_s hR _ _ _ h
    obtain ⟨h3, h⟩ := bif_k h
    exact ⟨s, by simp only [cond_true, h1, h2, Option.bind_some, h3], h⟩

theorem norm0_abs (cfg : Cfg) (c : Code) (st : KS) : (normK0 cfg c st).abs = norm0 cfg c st.abs := by
  unfold normK0 norm0
  cases firstRegion c with
  | none => rfl
  | some i =>
    simp only
    cases cfg.keep.lookup i with
    | none => rfl
    | some p => rfl
theorem bare_rows (r : KR) : bareRows r.list = r.bare := by
  cases r with
  | ints k sz n q =>
    show bareRows ((List.range n).map fun i => cellsI k sz (q i)) = true
    unfold bareRows
    rw [List.all_eq_true]
    intro row hrow
    obtain ⟨i, _, rfl⟩ := List.mem_map.1 hrow
    have : ∀ n i q, (cellsFrom k q i n).all bareV = true := by
      intro n
      induction n with
      | zero => intro i q; rfl
      | succ n ih => intro i q; simp only [cellsFrom, List.all_cons, ih, Bool.and_true]; rfl
    exact this _ _ _
  | lst l => rfl
  | fn n f => rfl
theorem gcK_abs (st : KS) : (gcK st).abs = gcS st.abs := by
  unfold gcK gcS
  have e : valsOf st.abs = valsK st := rfl
  have e0 : st.abs.n0 = st.n0 := rfl
  rw [e, e0]
  cases decide (st.n0 = 0) with
  | false => rfl
  | true =>
    simp only [cond_true]
    cases oneRef (refsL (valsK st)) with
    | none => rfl
    | some k =>
      cases topsL (valsK st) with
      | none => rfl
      | some ks =>
        have eh : st.abs.hp[k]? = (st.hp[k]?).map KB.abs := by
          show (absH st.hp)[k]? = _
          unfold absH
          rw [List.getElem?_map]
        simp only
        rw [eh]
        cases st.hp[k]? with
        | none => rfl
        | some b =>
          simp only [Option.map_some]
          have eb : bareRows b.abs.rows = b.r.bare := bare_rows b.r
          rw [eb]
          cases b.r.bare <;> rfl
theorem norm_abs (cfg : Cfg) (c : Code) (st : KS) : (normK cfg c st).abs = norm cfg c st.abs := by
  unfold normK norm
  cases firstRegion c with
  | none => exact norm0_abs cfg c st
  | some i =>
    simp only
    cases cfg.gc.contains i with
    | true =>
      simp only [cond_true]
      rw [gcK_abs, norm0_abs]
    | false => exact norm0_abs cfg c st

theorem codeK_s {P : Program} {cfgs : Cfgs} {m : Rounds} {rec : RecK β} {cfg : Cfg} {ty : Typed} (hR : RK rec (runF P cfgs)) (c : Code) : ∀ (st : KS) (k : Ex → KS → Option β) (r : β), codeK (tiOf P) m rec cfg ty c st k = some r →
    ∃ (x : Ex) (st' : KS), runC P cfgs cfg c st.abs = some (x, st'.abs) ∧ k x st' = some r := by
  induction c with
  | skip => intro st k r h; exact ⟨_, _, runC_skip, h⟩
  | exit id => intro st k r h; exact ⟨_, _, runC_exit, h⟩
  | ret => intro st k r h; exact ⟨_, _, runC_ret, h⟩
  | region id ops d =>
    intro st k r h
    obtain ⟨s, hs, h⟩ := regionK_s hR h
    exact ⟨_, s, by rw [runC_region, hs]; rfl, h⟩
  | seq a b iha ihb =>
    intro st k r h
    simp only [codeK] at h
    obtain ⟨x, s, h1, h⟩ := iha _ _ _ h
    cases x with
    | normal =>
      obtain ⟨y, s2, h2, h⟩ := ihb _ _ _ h
      exact ⟨y, s2, by rw [runC_seq, h1]; exact h2, h⟩
    | exit id => exact ⟨_, s, by rw [runC_seq, h1], h⟩
    | ret => exact ⟨_, s, by rw [runC_seq, h1], h⟩
  | cond y a b iha ihb =>
    intro st k r h
    simp only [codeK] at h
    split at h
    · rename_i t
      split at h
      · rename_i v hv
        have hget : get st.env t = .bool v := by unfold get; rw [hv]; rfl
        cases v with
        | true =>
          rw [learn_id hv] at h
          obtain ⟨x, s, h1, h⟩ := iha _ _ _ h
          exact ⟨x, s, by rw [runC_cond]; simp only [opd, show st.abs.env = st.env from rfl, hget, if_true]; exact h1, h⟩
        | false =>
          rw [learn_id hv] at h
          obtain ⟨x, s, h1, h⟩ := ihb _ _ _ h
          exact ⟨x, s, by rw [runC_cond]; simp only [opd, show st.abs.env = st.env from rfl, hget, Bool.false_eq_true, if_false]; exact h1, h⟩
      · cases h
    · rename_i v
      cases v with
      | true =>
        obtain ⟨x, s, h1, h⟩ := iha _ _ _ h
        exact ⟨x, s, by rw [runC_cond]; simp only [opd, constAV, if_true]; exact h1, h⟩
      | false =>
        obtain ⟨x, s, h1, h⟩ := ihb _ _ _ h
        exact ⟨x, s, by rw [runC_cond]; simp only [opd, constAV, Bool.false_eq_true, if_false]; exact h1, h⟩
    · cases h
  | block id c ih =>
    intro st k r h
    simp only [codeK] at h
    obtain ⟨x, s, h1, h⟩ := ih _ _ _ h
    cases x with
    | normal => exact ⟨_, s, by rw [runC_block, h1], h⟩
    | exit i =>
      simp only [kBlock] at h
      by_cases hi : i = id
      · simp only [hi, decide_true, cond_true] at h
        exact ⟨_, s, by rw [runC_block, h1]; simp [hi], h⟩
      · simp only [hi, decide_false, cond_false] at h
        exact ⟨_, s, by rw [runC_block, h1]; simp [hi], h⟩
    | ret => exact ⟨_, s, by rw [runC_block, h1], h⟩
  | loop c ih =>
    intro st k r h
    simp only [codeK] at h
    have : ∀ (j : Nat) (st : KS) (sa : St), (normK cfg c st).abs = norm cfg c sa → loopK (normK cfg c) (codeK (tiOf P) m rec cfg ty c) j (normK cfg c st) k = some r → ∃ (x : Ex) (st' : KS), runC P cfgs cfg (.loop c) sa = some (x, st'.abs) ∧ k x st' = some r := by
      intro j
      induction j with
      | zero => intro st sa hsa h; cases h
      | succ j ihm =>
        intro st sa hsa h
        rw [loopK] at h
        obtain ⟨x, s, h1, h⟩ := ih _ _ _ h
        rw [runC_loop, ← hsa, h1]
        cases x with
        | normal => exact ihm s s.abs (norm_abs _ _ _) h
        | exit i => exact ⟨_, s, rfl, h⟩
        | ret => exact ⟨_, s, rfl, h⟩
    exact this _ st _ (norm_abs _ _ _) h
  | _ => intro st k r h; cases h

theorem resK_s {st : KS} {x : ResultVar} {k : AV → Option β} (h : resK T st x k = some r) : ∃ v, resA T st.abs x = some v ∧ k v = some r := by
  cases x with
  | tmp t => exact ⟨_, rfl, h⟩
  | cell a t =>
    obtain ⟨v, h1, h⟩ := loadK_s h
    exact ⟨v, h1, h⟩
theorem resKs_s {st : KS} : ∀ {l : List ResultVar} {k : List AV → Option β}, resKs T st l k = some r → ∃ vs, resAs T st.abs l = some vs ∧ k vs = some r
  | [], k, h => ⟨[], rfl, h⟩
  | x :: l, k, h => by
    simp only [resKs] at h
    obtain ⟨v, h1, h⟩ := resK_s h
    obtain ⟨vs, h2, h⟩ := resKs_s h
    exact ⟨_, by simp only [resAs, h1, h2], h⟩

theorem bareK_s {x : KR} {k : Bool → Option β} (h : bareK x k = some r) : (refsR x.list = [] ∧ k true = some r) ∨ (refsR x.list ≠ [] ∧ k false = some r) := by
  have hz : ∀ (l : List (List AV)), (∀ row ∈ l, refsL row = []) → refsR l = [] := by
    intro l
    induction l with
    | nil => intro _; rfl
    | cons a l ih => intro hl; simp only [refsR, hl a (by simp), ih fun row hr => hl row (by simp [hr]), List.append_nil]
  have hs0 : ∀ (row : List AV), row.all scalarV = true → refsL row = [] := by
    intro row
    induction row with
    | nil => intro _; rfl
    | cons a l ih =>
      intro hl
      simp only [List.all_cons, Bool.and_eq_true] at hl
      simp only [refsL, ih hl.2, List.append_nil]
      cases a <;> first | rfl | simp [scalarV] at hl
  have hs : ∀ (row : List AV), row.all bareV = true → refsL row = [] := by
    intro row
    induction row with
    | nil => intro _; rfl
    | cons a l ih =>
      intro hl
      simp only [List.all_cons, Bool.and_eq_true] at hl
      simp only [refsL, ih hl.2, List.append_nil]
      cases a with
      | vs sz rows =>
        simp only [bareV, List.all_eq_true] at hl
        exact hz rows fun row hr => hs0 row (by rw [List.all_eq_true]; exact hl.1 row hr)
      | _ => first | rfl | simp [bareV, scalarV] at hl
  unfold bareK at h
  split at h
  · split at h
    · rename_i hr; exact .inl ⟨hr, h⟩
    · rename_i hr; exact .inr ⟨hr, h⟩
  · rename_i kk sz n q
    refine .inl ⟨hz _ fun row hrow => ?_, h⟩
    obtain ⟨i, _, rfl⟩ := List.mem_map.1 hrow
    have : ∀ n i q, refsL (cellsFrom kk q i n) = [] := by
      intro n
      induction n with
      | zero => intro i q; rfl
      | succ n ih => intro i q; simp only [cellsFrom, refsL, refs, ih, List.append_nil]
    exact this _ _ _
  · obtain ⟨h1, h⟩ := bif_k h
    rw [List.all_eq_true] at h1
    exact .inl ⟨hz _ fun row hrow => hs row (h1 row hrow), h⟩

theorem outK_s {hp0 : List KB} {st : KS} {x : AV} {k : AV → List KB → Nat → Option β} (h : outK hp0 st x k = some r) : ∃ v hp' c, outN (absH hp0) st.abs x = (v, absH hp', c) ∧ k v hp' c = some r := by
  unfold outK at h
  unfold outN
  simp only [show st.abs.cl = st.cl from rfl, show st.abs.hp = absH st.hp from rfl, show st.abs.n0 = st.n0 from rfl]
  cases hc : st.cl with
  | false => rw [hc] at h; exact ⟨_, _, _, rfl, h⟩
  | true =>
    rw [hc] at h
    simp only [cond_true] at h ⊢
    cases hrx : refs x with
    | nil => rw [hrx] at h; exact ⟨_, _, _, rfl, h⟩
    | cons a l =>
      rw [hrx] at h
      simp only at h ⊢
      split at h
      · rename_i i ht
        rw [ht]
        simp only
        by_cases hk : st.n0 ≤ i
        · simp only [hk, decide_true, cond_true] at h
          rw [if_pos hk, absH_get]
          split at h
          · rename_i b hb
            rw [hb]
            simp only [Option.map_some, show b.abs.rows = b.r.list from rfl]
            rcases bareK_s h with ⟨h1, h⟩ | ⟨h1, h⟩
            · rw [h1]
              exact ⟨_, hp0 ++ [b], _, by rw [absH_app]; rfl, h⟩
            · refine ⟨_, st.hp, _, ?_, h⟩
              cases hrr : refsR b.r.list with
              | nil => exact absurd hrr h1
              | cons a l => rfl
          · rename_i hb
            rw [hb]
            exact ⟨_, _, _, rfl, h⟩
        · simp only [hk, decide_false, cond_false] at h
          rw [if_neg hk]
          exact ⟨_, _, _, rfl, h⟩
      · rename_i hne2
        refine ⟨_, st.hp, _, ?_, h⟩
        split
        · rename_i i ht; exact absurd ht (hne2 i)
        · rfl

theorem finishK_s {fn : Func} {hp0 : List KB} {st : KS} {k : AV → List KB → Nat → Option β} (h : finishK T fn hp0 st k = some r) : ∃ v hp' c, finish T fn (absH hp0) st.abs = some (v, absH hp', c) ∧ k v hp' c = some r := by
  unfold finishK at h
  obtain ⟨vs, h1, h⟩ := resKs_s h
  obtain ⟨h2, h⟩ := bif_k h
  obtain ⟨v, hp', c, h3, h⟩ := outK_s h
  exact ⟨v, hp', c, by unfold finish; simp only [h1, Option.bind_some, h2, cond_true, h3], h⟩

theorem oraAll_none {tbl : Tbl} {mt : MTbl} {f : Nat} (h : tbl f = none) (h' : mt f = none) (vs : List AV) (hp : List Blk) : oraAll T tbl mt f vs hp = none := by
  unfold oraAll mutOf
  rw [h]
  simp only [h']

theorem nbOf_abs {b : KB} {nb : NB} (h : nbOf T b = some nb) : typB T b.abs = some nb := by
  unfold nbOf at h
  split at h
  · rename_i k sz n q hr
    split at h
    · rename_i k' sz' hk
      obtain ⟨hc, h2⟩ := if_k h
      obtain ⟨rfl, rfl, hsz⟩ := hc
      cases h2
      unfold typB
      have hrows : b.abs.rows = (List.range n).map fun i => cellsI k sz (q i) := by
        show b.r.list = _
        rw [hr]
        rfl
      rw [show b.abs.e = b.e from rfl, hk]
      simp only [Option.bind_some]
      rw [if_pos ⟨hsz, by rw [hrows]; exact intRows_ints _ _ _ _⟩, hrows, qOf_ints]
      simp
    · cases h
  · cases h
theorem ofNB_abs (b : NB) : (KB.ofNB b).abs = b.blk := rfl

theorem mutK_s {mt : KMT} {f : Nat} {g : List AV → NB → Option (Bool × AV × NB)} {hp : List KB} {vs : List AV} {k : AV → List KB → Nat → Option β} (hg : mt f = some g) (h : mutK T hp vs g k = some r) :
    ∃ v hp' c, mutOf T (mtOf mt) f vs (absH hp) = some (v, absH hp', c) ∧ k v hp' c = some r := by
  unfold mutK at h
  split at h
  · rename_i i hi
    simp only [Option.bind_eq_some_iff] at h
    obtain ⟨b, hb, h⟩ := h
    obtain ⟨h1, h⟩ := bif_k h
    simp only [Option.bind_eq_some_iff] at h
    obtain ⟨nb, hnb, ⟨t, v, nb'⟩, hy, h⟩ := h
    obtain ⟨h2, h⟩ := bif_k h
    have h2' : t = true := h2
    subst h2'
    refine ⟨_, _, _, ?_, h⟩
    unfold mutOf mtOf
    rw [hg]
    simp only [Option.map_some, hi, Option.bind_some, absH_get, hb, h1, if_true, nbOf_abs hnb, hy, cond_true, absH_set, ofNB_abs]
  · cases h

theorem evalK_s {P : Program} {c : KCfg} : ∀ n, RK (evalK (β := β) P c n) (runF P (c.cfgs P))
  | 0 => fun _ _ _ _ _ h => by cases h
  | n + 1 => by
    intro f vs hp k r h
    unfold evalK at h
    split at h
    · rename_i g hg
      obtain ⟨vs', h1, h⟩ := frzVsK_s h
      simp only [Option.bind_eq_some_iff] at h
      obtain ⟨a, h2, h⟩ := h
      rw [Ans.to_val] at h
      obtain ⟨h3, h⟩ := bif_k h
      have h3' : a.val.1 = true := h3
      refine ⟨_, _, _, runF_ora ?_, h⟩
      show oraAll (tiOf P) (tblOf c.tbl) (mtOf c.mtb) f vs (absH hp) = _
      unfold oraAll oraOf tblOf
      rw [hg]
      simp only [Option.map_some, h1, Option.bind_some, h2, h3', cond_true, absH_len, absH_app, shiftKB_abs]
    · rename_i hg
      have htn : tblOf c.tbl f = none := by unfold tblOf; rw [hg]; rfl
      split at h
      · rename_i g hm
        have hm' : c.mtb f = some g := by
          unfold mtAt at hm
          split at hm
          · cases hm
          · exact hm
        obtain ⟨v, hp', cc, h1, h⟩ := mutK_s hm' h
        refine ⟨v, hp', cc, runF_ora ?_, h⟩
        show oraAll (tiOf P) (tblOf c.tbl) (mtOf c.mtb) f vs (absH hp) = _
        unfold oraAll
        rw [htn]
        exact h1
      · rename_i hm
        have ho : (c.cfgs P).ora f vs (absH hp) = none := by
          show oraAll (tiOf P) (tblOf c.tbl) (mtOf c.mtb) f vs (absH hp) = _
          unfold oraAll
          rw [htn]
          unfold mtAt at hm
          split at hm
          · rename_i hr
            unfold mutOf
            cases hmt : mtOf c.mtb f with
            | none => rfl
            | some g => simp only [hr, oneRef, Option.bind_none]
          · unfold mutOf mtOf
            rw [hm]
            rfl
        split at h
        · rename_i fn hf
          split at h
          · rename_i b hb
            obtain ⟨h1, h⟩ := bif_k h
            obtain ⟨x, s, h2, h⟩ := codeK_s (evalK_s n) b _ _ _ h
            have h2' : runC P (c.cfgs P) ((c.cfgs P) f) b (enterA vs (absH hp)) = some (x, s.abs) := by
              rw [← h2]
              unfold enterA KS.abs
              simp only [absH_len]
              rfl
            cases x with
            | normal =>
              obtain ⟨v, hp', cl, h3, h⟩ := finishK_s h
              exact ⟨v, hp', cl, by rw [runF_eq hf hb h1 ho, h2']; exact h3, h⟩
            | ret =>
              obtain ⟨v, hp', cl, h3, h⟩ := finishK_s h
              exact ⟨v, hp', cl, by rw [runF_eq hf hb h1 ho, h2']; exact h3, h⟩
            | exit i => cases h
          · cases h
        · cases h

end

theorem fnKH_run {P : Program} {c : KCfg} {n : Nat} {m : Rounds} {f : Nat} {vs : List AV} {hp0 : List KB} {v : AV} {new : List KB} (hg : c.tbl f = none) (hm : c.mtb f = none) (h : fnKH P c n m f vs hp0 done = some (v, new, true)) : ∃ cl, runF P (c.cfgs P) f vs (absH hp0) = some (v, absH new, cl) := by
  have ho : (c.cfgs P).ora f vs (absH hp0) = none := oraAll_none (by unfold tblOf; rw [hg]; rfl) (by unfold mtOf; rw [hm]; rfl) _ _
  unfold fnKH at h
  split at h
  · rename_i fn hf
    split at h
    · rename_i b hb
      obtain ⟨h1, h⟩ := bif_k h
      obtain ⟨x, s, h2, h⟩ := codeK_s (evalK_s n) b _ _ _ h
      have h2' : runC P (c.cfgs P) ((c.cfgs P) f) b (enterA vs (absH hp0)) = some (x, s.abs) := by
        rw [← h2]
        unfold enterA KS.abs
        simp only [absH_len]
        rfl
      cases x with
      | normal =>
        obtain ⟨v', hp', cl', h3, h⟩ := finishK_s h
        cases h
        exact ⟨cl', by rw [runF_eq hf hb h1 ho, h2']; exact h3⟩
      | ret =>
        obtain ⟨v', hp', cl', h3, h⟩ := finishK_s h
        cases h
        exact ⟨cl', by rw [runF_eq hf hb h1 ho, h2']; exact h3⟩
      | exit i => cases h
    · cases h
  · cases h

/-! ### tables -/
abbrev KTblOk (P : Program) (kt : KTbl) : Prop := TblOk P (tblOf kt)
abbrev KMTOk (P : Program) (mt : KMT) : Prop := MTblOk P (mtOf mt)

theorem KMTOk.none (P : Program) : KMTOk P (fun _ => none) := by
  intro f g h
  cases h

theorem runF_ok {P : Program} {c : KCfg} (hm : P.follows .mixedOrders = true) (hpl : Plain P) (ht : KTblOk P c.tbl) (hmt : KMTOk P c.mtb) : RecSound P (runF P (c.cfgs P)) := fun f vs hp v hp' cl h hL => by
  obtain ⟨n, hn⟩ := (runF_some P _).1 h
  exact evalF_sound (c.cfgs P) hm hpl (oraAll_keeps _ _ _) (oraAll_sound ht hmt) n f vs hp v hp' cl hn hL

/-- what is run over a sound table is so -/
theorem fnK_sem {P : Program} {c : KCfg} (hm : P.follows .mixedOrders = true) (hpl : Plain P) (ht : KTblOk P c.tbl) (hmt : KMTOk P c.mtb) {n : Nat} {m : Rounds} {f : Nat} {vs : List AV} {v : AV} {new : List KB} (hg : c.tbl f = none) (hgm : c.mtb f = none) (h : fnK P c n m f vs done = some (v, new, true)) : Tells P f vs v (absH new) := by
  obtain ⟨cl, hr⟩ := fnKH_run hg hgm h
  exact ⟨runF P (c.cfgs P), cl, runF_ok hm hpl ht hmt, hr⟩
theorem fnKH_mut {P : Program} {c : KCfg} (hm : P.follows .mixedOrders = true) (hpl : Plain P) (ht : KTblOk P c.tbl) (hmt : KMTOk P c.mtb) {n : Nat} {m : Rounds} {f : Nat} {vs : List AV} {v : AV} {b b' : NB} (hg : c.tbl f = none) (hgm : c.mtb f = none) (h : fnKH P c n m f vs [KB.ofNB b] done = some (v, [KB.ofNB b'], true)) : TellsM P f vs b v b' := by
  obtain ⟨cl, hr⟩ := fnKH_run hg hgm h
  exact ⟨runF P (c.cfgs P), cl, runF_ok hm hpl ht hmt, hr⟩

end Go.Proofs.Ythbmlioknnhleaa.Abs
