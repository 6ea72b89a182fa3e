/- The abstract machine: a call told in an empty heap, its arguments frozen, is told in any heap. -/
import Derived.Test.YtjdciikfbinchaaAbs24
namespace Go.Proofs.Ytjdciikfbinchaa.Abs
open Go

/-! ### what is handed back, in another heap -/
mutual
def shiftV (d : Nat) : AV → AV
  | .ptr k r c t => .ptr (d + k) r c t
  | .sl k r n t => .sl (d + k) r n t
  | .ssl k r c n t => .ssl (d + k) r c n t
  | .agg cs => .agg (shiftVs d cs)
  | .tup vs => .tup (shiftVs d vs)
  | v => v
def shiftVs (d : Nat) : List AV → List AV
  | [] => []
  | v :: l => shiftV d v :: shiftVs d l
end
def shiftB (d : Nat) (b : Blk) : Blk := ⟨b.e, b.sz, b.rows.map (shiftVs d)⟩

mutual
/-- no part of it lies in memory that is never written -/
def clean : AV → Bool
  | .vs _ _ | .vf _ _ _ | .vi _ _ _ _ | .vm _ _ _ | .vp _ _ | .fn _ _ => false
  | .agg cs => cleanL cs
  | .tup vs => cleanL vs
  | _ => true
def cleanL : List AV → Bool
  | [] => true
  | v :: l => clean v && cleanL l
end
def cleanB (l : List Blk) : Prop := ∀ b ∈ l, ∀ row ∈ b.rows, cleanL row = true

theorem shiftVs_get (d : Nat) : ∀ (l : List AV) (j : Nat), (shiftVs d l)[j]? = (l[j]?).map (shiftV d)
  | [], j => rfl
  | v :: l, 0 => rfl
  | v :: l, j + 1 => by simpa [shiftVs] using shiftVs_get d l j
theorem shiftVs_length (d : Nat) : ∀ (l : List AV), (shiftVs d l).length = l.length
  | [] => rfl
  | v :: l => by simp [shiftVs, shiftVs_length d l]
theorem cleanL_get : ∀ (l : List AV) (j : Nat) (x : AV), cleanL l = true → l[j]? = some x → clean x = true
  | v :: l, 0, x, h, hx => by simp [cleanL] at h hx; subst hx; exact h.1
  | v :: l, j + 1, x, h, hx => by simp [cleanL] at h hx; exact cleanL_get l j x h.2 hx

theorem shift_rel {M M2 : Mem} {ρ ρ2 : Rho} {new hp2 : List Blk} {d : Nat} (hb : ∀ (k : Nat) (b : Blk) (l : Plc), new[k]? = some b → ρ k = some l → ∃ b2, hp2[d + k]? = some b2 ∧ b2.rows.length = b.rows.length ∧ b2.sz = b.sz ∧ ρ2 (d + k) = some l)
    {x : AV} {u : Value} (h : VRel M ρ new x u) : clean x = true → VRel M2 ρ2 hp2 (shiftV d x) u := by
  induction h with
  | undef v => intro _; exact .undef v
  | bool b => intro _; exact .bool b
  | int k n => intro _; exact .int k n
  | str s => intro _; exact .str s
  | ptr hbk hl ht ho h =>
    intro _
    obtain ⟨b2, h1, h2, h3, h4⟩ := hb _ _ _ hbk hl
    exact .ptr h1 h4 (by omega) ho fun ht' => by rw [h3]; exact h (by omega)
  | nilptr => intro _; exact .nilptr
  | sl hbk hl ht ho h =>
    intro _
    obtain ⟨b2, h1, h2, h3, h4⟩ := hb _ _ _ hbk hl
    exact .sl h1 h4 (by omega) ho fun ht' => by rw [h3]; exact h (by omega)
  | ssl hbk hl ht ho h =>
    intro _
    obtain ⟨b2, h1, h2, h3, h4⟩ := hb _ _ _ hbk hl
    exact .ssl h1 h4 (by omega) ho fun ht' => by rw [h3]; exact h (by omega)
  | vs0 => intro hc; simp [clean] at hc
  | vs => intro hc; simp [clean] at hc
  | vp => intro hc; simp [clean] at hc
  | vf0 => intro hc; simp [clean] at hc
  | vf => intro hc; simp [clean] at hc
  | vi => intro hc; simp [clean] at hc
  | vm0 => intro hc; simp [clean] at hc
  | vm => intro hc; simp [clean] at hc
  | esl a => intro _; exact .esl a
  | nilsl => intro _; exact .nilsl
  | fn => intro hc; simp [clean] at hc
  | agg hs hone _ ih =>
    intro hc
    simp only [clean] at hc
    simp only [shiftV]
    refine .agg (by rw [shiftVs_length]; exact hs) hone fun j x u hx hu => ?_
    rw [shiftVs_get] at hx
    simp only [Option.map_eq_some_iff] at hx
    obtain ⟨y, hy, rfl⟩ := hx
    exact ih j y u hy hu (cleanL_get _ j y hc hy)
  | tup hs _ ih =>
    intro hc
    simp only [clean] at hc
    simp only [shiftV]
    refine .tup (by rw [shiftVs_length]; exact hs) fun j x u hx hu => ?_
    rw [shiftVs_get] at hx
    simp only [Option.map_eq_some_iff] at hx
    obtain ⟨y, hy, rfl⟩ := hx
    exact ih j y u hy hu (cleanL_get _ j y hc hy)

/-! ### arguments, frozen -/
def allKind (k : IntKind) : List AV → Bool
  | [] => true
  | .int k' _ :: l => decide (k' = k) && allKind k l
  | _ => false
/-- the kind of a type's cells, if they are whole numbers of one kind, and how many -/
def kindOf (T : Nat → Option TI) (e : Nat) : Option (IntKind × Nat) :=
  match T e with
  | some ti => match ti.zero with
    | .int k n :: l => bif allKind k l then some (k, (AV.int k n :: l).length) else none
    | _ => none
  | none => none
def numAt (row : List AV) (j : Nat) : Int := match row[j]? with
  | some (.int _ x) => x
  | _ => 0
def qOf (rows : List (List AV)) : Nat → Nat → Int := fun i j => match rows[i]? with
  | some row => numAt row j
  | none => 0
def intRows (k : IntKind) (sz : Nat) (rows : List (List AV)) : Bool := rows.all fun row => decide (row.length = sz) && allKind k row

def freeze1 (T : Nat → Option TI) (hp : List Blk) : AV → Option AV
  | .bool b => some (.bool b)
  | .int k n => some (.int k n)
  | .str s => some (.str s)
  | .nilptr => some .nilptr
  | .nilsl => some .nilsl
  | .esl => some .esl
  | .vi k sz n q => some (.vi k sz n q)
  | .vm n m q => some (.vm n m q)
  | .vf sz n f => some (.vf sz n f)
  | .vs sz rows => match refsR rows with
    | [] => some (.vs sz rows)
    | _ => none
  | .fn f caps => match refsL caps with
    | [] => some (.fn f caps)
    | _ => none
  | .sl k r n t => (fresh hp k t).bind fun b => (kindOf T b.e).bind fun (kk, sz) =>
      if b.sz = sz ∧ r + n ≤ b.rows.length ∧ intRows kk sz ((b.rows.drop r).take n) = true then some (.vi kk sz n (qOf ((b.rows.drop r).take n))) else none
  | _ => none
def freezeL (T : Nat → Option TI) (hp : List Blk) : List AV → Option (List AV)
  | [] => some []
  | v :: l => (freeze1 T hp v).bind fun v' => (freezeL T hp l).map fun l' => v' :: l'
def freezeV (T : Nat → Option TI) (hp : List Blk) : AV → Option AV
  | .agg cs => (freezeL T hp cs).map .agg
  | v => freeze1 T hp v
def freezeVs (T : Nat → Option TI) (hp : List Blk) : List AV → Option (List AV)
  | [] => some []
  | v :: l => (freezeV T hp v).bind fun v' => (freezeVs T hp l).map fun l' => v' :: l'

theorem allKind_get {k : IntKind} : ∀ {l : List AV} {j : Nat} {x : AV}, allKind k l = true → l[j]? = some x → ∃ n, x = .int k n
  | [], j, x, _, h => by simp at h
  | y :: l, j, x, hk, h => by
    cases y <;> simp only [allKind, Bool.false_eq_true] at hk
    rename_i k' n
    simp only [Bool.and_eq_true, decide_eq_true_eq] at hk
    obtain ⟨rfl, hk⟩ := hk
    cases j with
    | zero => simp at h; exact ⟨n, h.symm⟩
    | succ j => exact allKind_get hk (by simpa using h)

theorem cellsFrom_get (k : IntKind) (q : Nat → Int) : ∀ (n i j : Nat), (cellsFrom k q i n)[j]? = if j < n then some (.int k (q (i + j))) else none
  | 0, i, j => by simp [cellsFrom]
  | n + 1, i, 0 => by simp [cellsFrom]
  | n + 1, i, j + 1 => by
    simp only [cellsFrom, List.getElem?_cons_succ]
    rw [cellsFrom_get k q n (i + 1) j]
    simp only [Nat.add_lt_add_iff_right, show i + 1 + j = i + (j + 1) by omega]
theorem cellsFrom_length (k : IntKind) (q : Nat → Int) : ∀ (n i : Nat), (cellsFrom k q i n).length = n
  | 0, i => rfl
  | n + 1, i => by simp [cellsFrom, cellsFrom_length k q n (i + 1)]
theorem cellsI_get (k : IntKind) (sz : Nat) (q : Nat → Int) (j : Nat) : (cellsI k sz q)[j]? = if j < sz then some (.int k (q j)) else none := by
  rw [cellsFrom_get, Nat.zero_add]

/-- rows of numbers, told by the function that they give -/
theorem cells_qOf {k : IntKind} {sz : Nat} {rows : List (List AV)} (h : intRows k sz rows = true) {i : Nat} {row : List AV} (hi : rows[i]? = some row) : cellsI k sz (qOf rows i) = row := by
  unfold intRows at h
  rw [List.all_eq_true] at h
  have h' := h row (List.mem_of_getElem? hi)
  simp only [Bool.and_eq_true, decide_eq_true_eq] at h'
  apply List.ext_getElem?
  intro j
  rw [cellsI_get]
  split
  · rename_i hj
    have hjl : j < row.length := by omega
    obtain ⟨x, hx⟩ : ∃ x, row[j]? = some x := ⟨row[j], List.getElem?_eq_getElem hjl⟩
    obtain ⟨n, rfl⟩ := allKind_get h'.2 hx
    rw [hx]
    simp only [qOf, hi, numAt, hx]
  · rename_i hj
    exact (List.getElem?_eq_none (by omega)).symm

section
variable {M : Mem} {ρ : Rho} {β : Nat → Option Nat} {hp : List Blk} {lo : List (Nat × List AV)} {w : World} {T : Nat → Option TI}

theorem sub_mem (hR : Real M ρ β hp lo w.heap) : SubM M (mem w) := fun g o h => hR.mem g o h

theorem VRel.noRefs {x : AV} {u : Value} (h : VRel M ρ hp x u) (hr : refs x = []) : VRel M (fun _ => none) [] x u := h.loc fun k hk => by rw [hr] at hk; cases hk

theorem VRel.sc' {x : AV} {v : Value} {k : IntKind} {n : Int} (h : VRel M ρ hp x v) (hx : x = .int k n) : v = .int k n := by
  subst hx
  cases h
  rfl

theorem freeze1_rel (hR : Real M ρ β hp lo w.heap) {x x' : AV} {u : Value} (h : VRel M ρ hp x u) (hf : freeze1 T hp x = some x') : VRel (mem w) (fun _ => none) [] x' u := by
  have same : refs x = [] → x' = x → VRel (mem w) (fun _ => none) [] x' u := fun h1 h2 => by rw [h2]; exact (h.noRefs h1).mono (sub_mem hR) (Ext.refl _ _)
  cases x with
  | bool b => cases hf; exact same rfl rfl
  | int k n => cases hf; exact same rfl rfl
  | str s => cases hf; exact same rfl rfl
  | nilptr => cases hf; exact same rfl rfl
  | nilsl => cases hf; exact same rfl rfl
  | esl => cases hf; exact same rfl rfl
  | vi k sz n q => cases hf; exact same rfl rfl
  | vm n m q => cases hf; exact same rfl rfl
  | vf sz n f => cases hf; exact same rfl rfl
  | vs sz rows =>
    simp only [freeze1] at hf
    split at hf
    · rename_i hr
      cases hf
      exact same (by simp only [refs]; exact hr) rfl
    · cases hf
  | fn f caps =>
    simp only [freeze1] at hf
    split at hf
    · rename_i hr
      cases hf
      exact same (by simp only [refs]; exact hr) rfl
    · cases hf
  | sl k r n t =>
    simp only [freeze1, Option.bind_eq_some_iff] at hf
    obtain ⟨b, hb, ⟨kk, sz⟩, hk, hf⟩ := hf
    simp only at hf
    split at hf
    · rename_i hc
      obtain ⟨hsz, hn, hrows⟩ := hc
      cases hf
      obtain ⟨hb1, hb2⟩ := fresh_some hb
      cases h with
      | @sl _ _ _ _ _ b' l hb' hl ht ho hs =>
        rw [hb1] at hb'
        cases hb'
        obtain ⟨off, cap, rfl, hnc, hoff, hcap⟩ := hs hb2
        obtain ⟨l', c, hl', hat⟩ := hR.blk k b hb1
        rw [hl] at hl'
        cases hl'
        refine .vi ?_
        by_cases hn0 : n = 0
        · subst hn0
          exact .vf0 _ _ _ _
        · have hoff' : off = r * b.sz := hoff (.inl (by omega))
          subst hoff'
          have hroom := hat.room
          have hmul : (r + n) * b.sz ≤ b.rows.length * b.sz := Nat.mul_le_mul_right _ hn
          have hsize := hat.size
          rw [Nat.add_mul] at hmul
          refine .vf (show mem w l.blk = some _ from hat.at_) hnc (fun i _ => cellsFrom_length _ _ _ _) (by rw [← hsz]; omega) fun i j x u hi hx hu => ?_
          have hget : ((b.rows.drop r).take n)[i]? = b.rows[r + i]? := by rw [List.getElem?_take, if_pos hi, List.getElem?_drop]
          have hlt : r + i < b.rows.length := by omega
          obtain ⟨row, hrow⟩ : ∃ row, b.rows[r + i]? = some row := ⟨_, List.getElem?_eq_getElem hlt⟩
          rw [cells_qOf hrows (hget.trans hrow)] at hx
          have hallr := List.all_eq_true.1 hrows row (List.mem_of_getElem? (hget.trans hrow))
          simp only [Bool.and_eq_true] at hallr
          obtain ⟨m, rfl⟩ := allKind_get hallr.2 hx
          exact (hat.rows (r + i) row j _ u hrow hx (by rw [Nat.add_mul]; rw [← hsz] at hu; exact hu)).sc' rfl
    · cases hf
  | _ => simp [freeze1] at hf

theorem freezeL_get : ∀ {cs cs' : List AV}, freezeL T hp cs = some cs' → cs'.length = cs.length ∧ ∀ (j : Nat) (x' : AV), cs'[j]? = some x' → ∃ x, cs[j]? = some x ∧ freeze1 T hp x = some x'
  | [], cs', h => by cases h; exact ⟨rfl, fun j x' h => by simp at h⟩
  | v :: l, cs', h => by
    simp only [freezeL, Option.bind_eq_some_iff, Option.map_eq_some_iff] at h
    obtain ⟨v', hv, l', hl, rfl⟩ := h
    obtain ⟨h1, h2⟩ := freezeL_get hl
    refine ⟨by simp [h1], fun j x' hx => ?_⟩
    cases j with
    | zero => simp at hx; subst hx; exact ⟨v, rfl, hv⟩
    | succ j => obtain ⟨x, a, b⟩ := h2 j x' (by simpa using hx); exact ⟨x, by simpa using a, b⟩
theorem freezeVs_get : ∀ {cs cs' : List AV}, freezeVs T hp cs = some cs' → cs'.length = cs.length ∧ ∀ (j : Nat) (x' : AV), cs'[j]? = some x' → ∃ x, cs[j]? = some x ∧ freezeV T hp x = some x'
  | [], cs', h => by cases h; exact ⟨rfl, fun j x' h => by simp at h⟩
  | v :: l, cs', h => by
    simp only [freezeVs, Option.bind_eq_some_iff, Option.map_eq_some_iff] at h
    obtain ⟨v', hv, l', hl, rfl⟩ := h
    obtain ⟨h1, h2⟩ := freezeVs_get hl
    refine ⟨by simp [h1], fun j x' hx => ?_⟩
    cases j with
    | zero => simp at hx; subst hx; exact ⟨v, rfl, hv⟩
    | succ j => obtain ⟨x, a, b⟩ := h2 j x' (by simpa using hx); exact ⟨x, by simpa using a, b⟩

theorem freezeV_rel (hR : Real M ρ β hp lo w.heap) {x x' : AV} {u : Value} (h : VRel M ρ hp x u) (hf : freezeV T hp x = some x') : VRel (mem w) (fun _ => none) [] x' u := by
  unfold freezeV at hf
  split at hf
  · simp only [Option.map_eq_some_iff] at hf
    obtain ⟨cs', hcs, rfl⟩ := hf
    obtain ⟨h1, h2⟩ := freezeL_get hcs
    cases h with
    | agg hs hone hx =>
      refine .agg (by rw [h1]; exact hs) hone fun j x' u hx' hu => ?_
      obtain ⟨x, hxx, hfx⟩ := h2 j x' hx'
      exact freeze1_rel hR (hx j x u hxx hu) hfx
  · exact freeze1_rel hR h hf
end

/-! ### nil, and empty slices -/
inductive Weak : AV → AV → Prop
  | same (x : AV) : Weak x x
  | nil (k : IntKind) (sz : Nat) (q : Nat → Nat → Int) : Weak .nilsl (.vi k sz 0 q)
  | esl (k : IntKind) (sz : Nat) (q : Nat → Nat → Int) : Weak .esl (.vi k sz 0 q)
  | nile : Weak .nilsl .esl
  | nilm (m : Nat → Nat) (q : Nat → Nat → Int) : Weak .nilsl (.vm 0 m q)
  | eslm (m : Nat → Nat) (q : Nat → Nat → Int) : Weak .esl (.vm 0 m q)
  | agg {cs cs' : List AV} (hl : cs'.length = cs.length) (h : ∀ (j : Nat) (x x' : AV), cs[j]? = some x → cs'[j]? = some x' → Weak x x') : Weak (.agg cs) (.agg cs')

theorem Weak.rel {M : Mem} {ρ : Rho} {hp : List Blk} {x x' : AV} (h : Weak x x') : ∀ {u : Value}, VRel M ρ hp x u → VRel M ρ hp x' u := by
  induction h with
  | same x => exact fun h => h
  | nil k sz q => intro u h; cases h; exact .vi (.vf0 _ _ _ _)
  | esl k sz q => intro u h; cases h; exact .vi (.vf0 _ _ _ _)
  | nile => intro u h; cases h; exact .esl none
  | nilm m q => intro u h; cases h; exact .vm0 _ _ _ _
  | eslm m q => intro u h; cases h; exact .vm0 _ _ _ _
  | @agg cs cs' hl _ ih =>
    intro u h
    cases h with
    | agg hs hone hx =>
      refine .agg (by rw [hl]; exact hs) hone fun j x' u hx' hu => ?_
      obtain ⟨hj, _⟩ := List.getElem?_eq_some_iff.1 hx'
      obtain ⟨x, hxx⟩ : ∃ x, cs[j]? = some x := ⟨_, List.getElem?_eq_getElem (by omega)⟩
      exact ih j x x' hxx hx' (hx j x u hxx hu)

/-! ### tables -/
/-- a call at these values, in an empty heap, gives this, truly -/
def Tells (P : Program) (f : Nat) (vs : List AV) (v : AV) (new : List Blk) : Prop := ∃ (R : Rec) (c : Nat), RecSound P R ∧ R f vs [] = some (v, new, c)

/-- what is handed back may be told as never written -/
def FrzRel (new : List Blk) (v0 v : AV) : Prop := (∀ d, shiftV d v = v) ∧ ∀ (M : Mem) (ρ : Rho) (H : Array Obj) (Mn : Mem) (u : Value), Real M ρ (fun _ => none) new [] H → (∀ g, M g = none → Mn g = H[g]?) → VRel M ρ new v0 u → VRel Mn (fun _ => none) [] v u

abbrev Tbl := Nat → Option (List AV → Option (AV × List Blk))
def TblOk (P : Program) (tbl : Tbl) : Prop := ∀ f g, tbl f = some g → ∀ vs v new, g vs = some (v, new) → ∃ vs' v0 new0, vs'.length = vs.length ∧ (∀ (j : Nat) (x x' : AV), vs[j]? = some x → vs'[j]? = some x' → Weak x x') ∧ allNoL vs' = true ∧ Tells P f vs' v0 new0 ∧
  ((v = v0 ∧ new = new0 ∧ clean v0 = true ∧ cleanB new0) ∨ (new = [] ∧ FrzRel new0 v0 v))

/-- what a table tells, in any heap -/
def oraOf (T : Nat → Option TI) (tbl : Tbl) : Rec := fun f vs hp => match tbl f with
  | some g => (freezeVs T hp vs).bind fun vs' => (g vs').map fun (v, new) => (shiftV hp.length v, hp ++ new.map (shiftB hp.length), hp.length)
  | none => none

theorem oraOf_keeps (T : Nat → Option TI) (tbl : Tbl) : Keeps (oraOf T tbl) := by
  intro f vs hp v hp' c h
  unfold oraOf at h
  split at h
  · simp only [Option.bind_eq_some_iff, Option.map_eq_some_iff] at h
    obtain ⟨vs', _, ⟨v0, new⟩, _, he⟩ := h
    cases he
    exact ⟨by simp, Nat.le_refl _, fun k hk => List.getElem?_append_left hk⟩
  · cases h

theorem oraOf_sound {P : Program} {T : Nat → Option TI} {tbl : Tbl} (ht : TblOk P tbl) : RecSound P (oraOf T tbl) := by
  intro f vs hp v hp' c h hL
  unfold oraOf at h
  split at h
  · rename_i g hg
    simp only [Option.bind_eq_some_iff, Option.map_eq_some_iff] at h
    obtain ⟨vs1, hvs, ⟨v1, new⟩, hgv, he⟩ := h
    cases he
    obtain ⟨vs2, v0, new0, hlen, hweak, hL2, ⟨R, c0, hRS, hRun⟩, hcase⟩ := ht f g hg vs1 v1 new hgv
    obtain ⟨hfn, hcalls⟩ := hRS f vs2 [] v0 new0 c0 hRun hL2
    refine ⟨hfn, fun M ρ β lo w xs hR hl hx => ?_⟩
    obtain ⟨hfl, hfg⟩ := freezeVs_get hvs
    refine (hcalls (mem w) (fun _ => none) (fun _ => none) [] w xs (real_start w) (by rw [hl, hlen, hfl]) (fun j x u hxj huj => ?_)).mono fun en w' ⟨u, he, M', ρ', hM, _, hR', hv, hA⟩ => ?_
    · have hj := (List.getElem?_eq_some_iff.1 hxj).1
      obtain ⟨x1, hx1⟩ : ∃ x1, vs1[j]? = some x1 := ⟨_, List.getElem?_eq_getElem (by omega)⟩
      obtain ⟨x0, hx0, hfx⟩ := hfg j x1 hx1
      exact (hweak j x1 x hx1 hxj).rel (freezeV_rel hR (hx j x0 u hx0 huj) hfx)
    · have hold : ∀ g, g < w.heap.size → w'.heap[g]? = w.heap[g]? := fun g hg => by
        have h1 : mem w g = some w.heap[g] := Array.getElem?_eq_getElem hg
        rw [hR'.mem g _ (hM g _ h1), Array.getElem?_eq_getElem hg]
      have R1 : Real M ρ β hp lo w'.heap := hR.keep hA.size hold
      have hbig : ∀ g, M' g = none → w.heap.size ≤ g := fun g hg => by
        apply Nat.le_of_not_lt
        intro hlt
        have h1 : mem w g = some w.heap[g] := Array.getElem?_eq_getElem hlt
        rw [hM g _ h1] at hg
        cases hg
      have hMlt : ∀ g o, M g = some o → g < w.heap.size := fun g o hg => lt_of_at (hR.mem g o hg)
      rcases hcase with ⟨rfl, rfl, hc1, hc2⟩ | ⟨rfl, hsh, hfz⟩
      · have hplc : ∀ k l, ρ' k = some l → w.heap.size ≤ l.blk := fun k l hk => by
          have hd := hR'.dom k l hk
          obtain ⟨l', c', hl', hb'⟩ := hR'.blk k _ (List.getElem?_eq_getElem hd)
          rw [hk] at hl'
          cases hl'
          exact hbig _ hb'.free
        have hget : ∀ k, (hp ++ new.map (shiftB hp.length))[hp.length + k]? = (new[k]?).map (shiftB hp.length) := fun k => by
          rw [List.getElem?_append_right (by omega), Nat.add_sub_cancel_left, List.getElem?_map]
        have hsr : ∀ {x : AV} {u : Value}, VRel M' ρ' new x u → clean x = true → VRel M (fun k => if k < hp.length then ρ k else ρ' (k - hp.length)) (hp ++ new.map (shiftB hp.length)) (shiftV hp.length x) u := fun hx hc => shift_rel (d := hp.length) (fun k b l hk hl => ⟨shiftB hp.length b, by rw [hget, hk]; rfl, by simp [shiftB], rfl, by
          show (if hp.length + k < hp.length then _ else _) = _
          rw [if_neg (by omega), Nat.add_sub_cancel_left]; exact hl⟩) hx hc
        have hE : Ext ρ hp (fun k => if k < hp.length then ρ k else ρ' (k - hp.length)) (hp ++ new.map (shiftB hp.length)) := fun k b l hk hl => by
          have hlt := (List.getElem?_eq_some_iff.1 hk).1
          exact ⟨b, l, by rw [List.getElem?_append_left hlt]; exact hk, by simp [hlt, hl], rfl, Nat.le_refl _, fun _ => rfl⟩
        refine ⟨u, he, M, _, SubM.refl _, hE, ⟨R1.mem, fun k b hb => ?_, fun k k' l l' h1 h2 e => ?_, fun k l h1 => ?_, fun d g cs hd hlk => ?_, R1.vlt, R1.vinj, fun d g k l hd h1 => ?_⟩, hsr hv hc1, hA⟩
        · by_cases hk : k < hp.length
          · rw [List.getElem?_append_left hk] at hb
            obtain ⟨l, c, hl, hbl⟩ := R1.blk k b hb
            exact ⟨l, c, by simp [hk, hl], { hbl with rows := hbl.rows.mono (SubM.refl _) hE }⟩
          · obtain ⟨k, rfl⟩ : ∃ i, k = hp.length + i := ⟨k - hp.length, by omega⟩
            rw [hget] at hb
            simp only [Option.map_eq_some_iff] at hb
            obtain ⟨b0, hb0, rfl⟩ := hb
            obtain ⟨l, c, hl, hbl⟩ := hR'.blk k b0 hb0
            refine ⟨l, c, by rw [if_neg (by omega), Nat.add_sub_cancel_left]; exact hl, ⟨?_, hbl.at_, hbl.size, hbl.pos, by simpa [shiftB] using hbl.room, fun row hrow => ?_, hbl.one, fun i row j x u hi hj hu => ?_⟩⟩
            · cases hM0 : M l.blk with
              | none => rfl
              | some o => exact absurd (hMlt _ _ hM0) (by have := hplc k l hl; omega)
            · simp only [shiftB, List.mem_map] at hrow
              obtain ⟨r0, hr0, rfl⟩ := hrow
              rw [shiftVs_length]
              exact hbl.len r0 hr0
            · simp only [shiftB, List.getElem?_map, Option.map_eq_some_iff] at hi
              obtain ⟨r0, hr0, rfl⟩ := hi
              rw [shiftVs_get] at hj
              simp only [Option.map_eq_some_iff] at hj
              obtain ⟨x0, hx0, rfl⟩ := hj
              exact hsr (hbl.rows i r0 j x0 u hr0 hx0 hu) (cleanL_get r0 j x0 (hc2 b0 (List.mem_of_getElem? hb0) r0 (List.mem_of_getElem? hr0)) hx0)
        · split at h1 <;> split at h2
          · exact R1.inj k k' l l' h1 h2 e
          · have := hR.plt h1; have := hplc _ _ h2; omega
          · have := hR.plt h2; have := hplc _ _ h1; omega
          · have := hR'.inj _ _ l l' h1 h2 e; omega
        · rw [List.length_append, List.length_map]
          split at h1
          · omega
          · have h2 := hR'.dom _ _ h1
            show k < hp.length + new.length
            omega
        · obtain ⟨c, e, hva⟩ := R1.var d g cs hd hlk
          exact ⟨c, e, { hva with cells := hva.cells.mono (SubM.refl _) hE }⟩
        · split at h1
          · exact R1.vdis d g k l hd h1
          · have := hR.vlt d g hd; have := hplc _ _ h1; omega
      · rw [List.map_nil, List.append_nil, hsh]
        let Mn : Mem := fun g => if g < w.heap.size then M g else w'.heap[g]?
        have hsub : SubM M Mn := fun g o hg => by show (if g < w.heap.size then M g else _) = _; rw [if_pos (hMlt g o hg)]; exact hg
        refine ⟨u, he, Mn, ρ, hsub, Ext.refl _ _, ⟨fun g o hg => ?_, fun k b hb => ?_, R1.inj, R1.dom, fun d g cs hd hlk => ?_, R1.vlt, R1.vinj, R1.vdis⟩, ?_, hA⟩
        · have hg' : (if g < w.heap.size then M g else w'.heap[g]?) = some o := hg
          split at hg'
          · exact R1.mem g o hg'
          · exact hg'
        · obtain ⟨l, c, hl, hbl⟩ := R1.blk k b hb
          have hlt := hR.plt hl
          exact ⟨l, c, hl, { hbl with free := by show (if l.blk < w.heap.size then M l.blk else _) = _; rw [if_pos hlt]; exact hbl.free, rows := hbl.rows.mono hsub (Ext.refl _ _) }⟩
        · obtain ⟨c, e, hva⟩ := R1.var d g cs hd hlk
          have hlt := hR.vlt d g hd
          exact ⟨c, e, { hva with free := by show (if g < w.heap.size then M g else _) = _; rw [if_pos hlt]; exact hva.free, cells := hva.cells.mono hsub (Ext.refl _ _) }⟩
        · refine (hfz M' ρ' w'.heap Mn u hR' (fun g hg => ?_) hv).mono (SubM.refl _) (fun k b l hk _ => by simp at hk)
          show (if g < w.heap.size then M g else _) = _
          rw [if_neg (by have := hbig g hg; omega)]
  · cases h

end Go.Proofs.Ytjdciikfbinchaa.Abs
