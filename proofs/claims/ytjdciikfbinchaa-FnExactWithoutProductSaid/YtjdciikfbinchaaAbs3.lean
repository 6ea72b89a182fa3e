/- The abstract machine's states and the model's worlds: how they are held together, and how that is kept. -/
import Derived.Test.YtjdciikfbinchaaAbs2
import Derived.Deep.MidRow
import Derived.Deep.AppendSrc
import Derived.Laws.MakeOwn
import Derived.Below
namespace Go.Proofs.Ytjdciikfbinchaa.Abs
open Go

structure Plc where
  blk : Nat
  n : Nat

abbrev Mem := Nat → Option Obj
abbrev Rho := Nat → Option Plc

/-- a scalar, told -/
def Sc : AV → Value → Prop
  | .int k n, v => v = .int k n
  | .bool b, v => v = .bool b
  | .str s, v => v = .string s
  | _, _ => False

def OneIn (c : Array Value) (o n : Nat) : Prop := ∀ (j : Nat) (u : Value), j < n → c[o + j]? = some u → u.oneCell' = true
def One (c : Array Value) : Prop := ∀ (j : Nat) (u : Value), c[j]? = some u → u.oneCell' = true

/-- 'v' is what the machine tells by 'x'; M: blocks that are never written; ρ: where the heap's blocks lie. -/
inductive VRel (M : Mem) (ρ : Rho) (hp : List Blk) : AV → Value → Prop
  | undef (v : Value) : VRel M ρ hp .undef v
  | bool (b : Bool) : VRel M ρ hp (.bool b) (.bool b)
  | int (k : IntKind) (n : Int) : VRel M ρ hp (.int k n) (.int k n)
  | str (s : ByteArray) : VRel M ρ hp (.str s) (.string s)
  | ptr {k r c t : Nat} {v : Value} {b : Blk} {l : Plc} (hb : hp[k]? = some b) (hl : ρ k = some l) (ht : t ≤ b.rows.length) (ho : v.oneCell' = true)
      (h : t = b.rows.length → v = .pointer (some ⟨l.blk, r * b.sz + c, none⟩)) : VRel M ρ hp (.ptr k r c t) v
  | nilptr : VRel M ρ hp .nilptr (.pointer none)
  | sl {k r n t : Nat} {v : Value} {b : Blk} {l : Plc} (hb : hp[k]? = some b) (hl : ρ k = some l) (ht : t ≤ b.rows.length) (ho : v.oneCell' = true)
      (h : t = b.rows.length → ∃ off cap, v = .slice (some ⟨l.blk, off, none⟩) n cap ∧ n ≤ cap ∧ (0 < n ∨ r = 0 → off = r * b.sz) ∧ (r = 0 → cap * b.sz = l.n)) : VRel M ρ hp (.sl k r n t) v
  | ssl {k r c n t : Nat} {v : Value} {b : Blk} {l : Plc} (hb : hp[k]? = some b) (hl : ρ k = some l) (ht : t ≤ b.rows.length) (ho : v.oneCell' = true)
      (h : t = b.rows.length → ∃ off cap, v = .slice (some ⟨l.blk, off, none⟩) n cap ∧ n ≤ cap ∧ (0 < n → off = r * b.sz + c)) : VRel M ρ hp (.ssl k r c n t) v
  | vs0 (sz : Nat) (a : Option Addr) (cap : Nat) : VRel M ρ hp (.vs sz []) (.slice a 0 cap)
  | vs {sz : Nat} {rows : List (List AV)} {g off cap : Nat} {c : Array Value} {e : TypeId} {f : Nat × Nat} (hM : M g = some (.cells c e f)) (hone : One c) (hn : rows.length ≤ cap)
      (hlen : ∀ row ∈ rows, row.length = sz) (hin : off + rows.length * sz ≤ c.size)
      (h : ∀ (i : Nat) (row : List AV) (j : Nat) (x : AV) (u : Value), rows[i]? = some row → row[j]? = some x → c[off + i * sz + j]? = some u → VRel M ρ hp x u) :
      VRel M ρ hp (.vs sz rows) (.slice (some ⟨g, off, none⟩) rows.length cap)
  | vp {row : List AV} {q g off : Nat} {c : Array Value} {e : TypeId} {f : Nat × Nat} (hM : M g = some (.cells c e f)) (hone : OneIn c off row.length) (hin : off + row.length ≤ c.size)
      (h : ∀ (j : Nat) (x : AV) (u : Value), row[j]? = some x → c[off + j]? = some u → VRel M ρ hp x u) : VRel M ρ hp (.vp row q) (.pointer (some ⟨g, off + q, none⟩))
  | vf0 (sz : Nat) (f : Nat → List AV) (a : Option Addr) (cap : Nat) : VRel M ρ hp (.vf sz 0 f) (.slice a 0 cap)
  | vf {sz n : Nat} {f : Nat → List AV} {g off cap : Nat} {c : Array Value} {e : TypeId} {fl : Nat × Nat} (hM : M g = some (.cells c e fl)) (hn : n ≤ cap)
      (hlen : ∀ i, i < n → (f i).length = sz) (hin : off + n * sz ≤ c.size)
      (h : ∀ (i j : Nat) (x : AV) (u : Value), i < n → (f i)[j]? = some x → c[off + i * sz + j]? = some u → Sc x u) :
      VRel M ρ hp (.vf sz n f) (.slice (some ⟨g, off, none⟩) n cap)
  | vi {k : IntKind} {sz n : Nat} {q : Nat → Nat → Int} {v : Value} (h : VRel M ρ hp (.vf sz n fun i => cellsI k sz (q i)) v) : VRel M ρ hp (.vi k sz n q) v
  | vm0 (m : Nat → Nat) (q : Nat → Nat → Int) (a : Option Addr) (cap : Nat) : VRel M ρ hp (.vm 0 m q) (.slice a 0 cap)
  | vm {n : Nat} {m : Nat → Nat} {q : Nat → Nat → Int} {g off cap : Nat} {c : Array Value} {e : TypeId} {fl : Nat × Nat} (hM : M g = some (.cells c e fl)) (hn : n ≤ cap)
      (hin : off + n ≤ c.size) (h : ∀ (i : Nat) (u : Value), i < n → c[off + i]? = some u → VRel M ρ hp (.vi .i64 1 (m i) fun j _ => q i j) u) :
      VRel M ρ hp (.vm n m q) (.slice (some ⟨g, off, none⟩) n cap)
  | esl (a : Option Addr) : VRel M ρ hp .esl (.slice a 0 0)
  | nilsl : VRel M ρ hp .nilsl (.slice none 0 0)
  | fn {f : Nat} {caps : List AV} {c : Array Value} (hs : c.size = caps.length) (h : ∀ (j : Nat) (x : AV) (u : Value), caps[j]? = some x → c[j]? = some u → VRel M ρ hp x u) :
      VRel M ρ hp (.fn f caps) (.func (.func f) #[] c)
  | agg {cs : List AV} {c : Array Value} (hs : c.size = cs.length) (hone : One c) (h : ∀ (j : Nat) (x : AV) (u : Value), cs[j]? = some x → c[j]? = some u → VRel M ρ hp x u) : VRel M ρ hp (.agg cs) (.agg c)
  | tup {vs : List AV} {c : Array Value} (hs : c.size = vs.length) (h : ∀ (j : Nat) (x : AV) (u : Value), vs[j]? = some x → c[j]? = some u → VRel M ρ hp x u) : VRel M ρ hp (.tup vs) (.tuple c)

def SubM (M M' : Mem) : Prop := ∀ g o, M g = some o → M' g = some o
theorem SubM.refl (M : Mem) : SubM M M := fun _ _ h => h
theorem SubM.trans {M M' M'' : Mem} (h : SubM M M') (k : SubM M' M'') : SubM M M'' := fun g o x => k g o (h g o x)

def Ext (ρ : Rho) (hp : List Blk) (ρ' : Rho) (hp' : List Blk) : Prop :=
  ∀ k b l, hp[k]? = some b → ρ k = some l → ∃ b' l', hp'[k]? = some b' ∧ ρ' k = some l' ∧ b'.sz = b.sz ∧ b.rows.length ≤ b'.rows.length ∧ (b'.rows.length = b.rows.length → l' = l)
theorem Ext.refl (ρ : Rho) (hp : List Blk) : Ext ρ hp ρ hp := fun _ b l hb hl => ⟨b, l, hb, hl, rfl, Nat.le_refl _, fun _ => rfl⟩
theorem Ext.trans {ρ ρ' ρ'' : Rho} {hp hp' hp'' : List Blk} (h : Ext ρ hp ρ' hp') (k : Ext ρ' hp' ρ'' hp'') : Ext ρ hp ρ'' hp'' := by
  intro i b l hb hl
  obtain ⟨b1, l1, hb1, hl1, hs1, hr1, he1⟩ := h i b l hb hl
  obtain ⟨b2, l2, hb2, hl2, hs2, hr2, he2⟩ := k i b1 l1 hb1 hl1
  exact ⟨b2, l2, hb2, hl2, hs2.trans hs1, Nat.le_trans hr1 hr2, fun he => (he2 (by omega)).trans (he1 (by omega))⟩

theorem VRel.mono {M M' : Mem} {ρ ρ' : Rho} {hp hp' : List Blk} {x : AV} {v : Value} (h : VRel M ρ hp x v) (hM : SubM M M') (hE : Ext ρ hp ρ' hp') : VRel M' ρ' hp' x v := by
  induction h with
  | undef v => exact .undef v
  | bool b => exact .bool b
  | int k n => exact .int k n
  | str s => exact .str s
  | ptr hb hl ht ho h =>
    obtain ⟨b', l', hb', hl', hs, hr, he⟩ := hE _ _ _ hb hl
    refine .ptr hb' hl' (by omega) ho fun ht' => ?_
    have e := he (by omega)
    rw [e, hs]
    exact h (by omega)
  | nilptr => exact .nilptr
  | sl hb hl ht ho h =>
    obtain ⟨b', l', hb', hl', hs, hr, he⟩ := hE _ _ _ hb hl
    refine .sl hb' hl' (by omega) ho fun ht' => ?_
    have e := he (by omega)
    rw [e, hs]
    exact h (by omega)
  | ssl hb hl ht ho h =>
    obtain ⟨b', l', hb', hl', hs, hr, he⟩ := hE _ _ _ hb hl
    refine .ssl hb' hl' (by omega) ho fun ht' => ?_
    have e := he (by omega)
    rw [e, hs]
    exact h (by omega)
  | vs0 sz a cap => exact .vs0 sz a cap
  | vs hg hone hn hlen hin _ ih => exact .vs (hM _ _ hg) hone hn hlen hin ih
  | vp hg hone hin _ ih => exact .vp (hM _ _ hg) hone hin ih
  | vf0 sz f a cap => exact .vf0 sz f a cap
  | vf hg hn hlen hin h => exact .vf (hM _ _ hg) hn hlen hin h
  | vi _ ih => exact .vi ih
  | vm0 m q a cap => exact .vm0 m q a cap
  | vm hg hn hin _ ih => exact .vm (hM _ _ hg) hn hin ih
  | esl a => exact .esl a
  | nilsl => exact .nilsl
  | fn hs _ ih => exact .fn hs ih
  | agg hs hone _ ih => exact .agg hs hone ih
  | tup hs _ ih => exact .tup hs ih

theorem Sc.v {M : Mem} {ρ : Rho} {hp : List Blk} {x : AV} {v : Value} (h : Sc x v) : VRel M ρ hp x v := by
  cases x <;> simp only [Sc] at h <;> first | (subst h; constructor) | exact h.elim

theorem VRel.one {M : Mem} {ρ : Rho} {hp : List Blk} {x : AV} {v : Value} (h : VRel M ρ hp x v) (hx : x.noL = true) (ha : ∀ cs, x ≠ .agg cs) : v.oneCell' = true := by
  cases h <;> first | rfl | assumption | (simp [AV.noL] at hx; done) | (rename_i h'; cases h' <;> rfl) | exact absurd rfl (ha _)

theorem Sc.one {x : AV} {v : Value} (h : Sc x v) : v.oneCell' = true := by
  cases x <;> simp only [Sc] at h <;> first | (subst h; rfl) | exact h.elim

/-- a block of cells holds these rows -/
def RowsIn (M : Mem) (ρ : Rho) (hp : List Blk) (sz : Nat) (rows : List (List AV)) (c : Array Value) : Prop :=
  ∀ (i : Nat) (row : List AV) (j : Nat) (x : AV) (u : Value), rows[i]? = some row → row[j]? = some x → c[i * sz + j]? = some u → VRel M ρ hp x u
def CellsIn (M : Mem) (ρ : Rho) (hp : List Blk) (cs : List AV) (c : Array Value) : Prop :=
  ∀ (j : Nat) (x : AV) (u : Value), cs[j]? = some x → c[j]? = some u → VRel M ρ hp x u
theorem RowsIn.mono {M M' : Mem} {ρ ρ' : Rho} {hp hp' : List Blk} {sz : Nat} {rows : List (List AV)} {c : Array Value} (h : RowsIn M ρ hp sz rows c) (hM : SubM M M') (hE : Ext ρ hp ρ' hp') : RowsIn M' ρ' hp' sz rows c :=
  fun i row j x u h1 h2 h3 => (h i row j x u h1 h2 h3).mono hM hE
theorem CellsIn.mono {M M' : Mem} {ρ ρ' : Rho} {hp hp' : List Blk} {cs : List AV} {c : Array Value} (h : CellsIn M ρ hp cs c) (hM : SubM M M') (hE : Ext ρ hp ρ' hp') : CellsIn M' ρ' hp' cs c :=
  fun j x u h1 h2 => (h j x u h1 h2).mono hM hE

structure BlkAt (M : Mem) (ρ : Rho) (hp : List Blk) (H : Array Obj) (l : Plc) (b : Blk) (c : Array Value) : Prop where
  free : M l.blk = none
  at_ : H[l.blk]? = some (.cells c b.e (0, 0))
  size : c.size = l.n
  pos : 0 < b.sz
  room : b.rows.length * b.sz ≤ l.n
  len : ∀ row ∈ b.rows, row.length = b.sz
  one : One c
  rows : RowsIn M ρ hp b.sz b.rows c

structure VarAt (M : Mem) (ρ : Rho) (hp : List Blk) (H : Array Obj) (g : Nat) (cs : List AV) (c : Array Value) (e : TypeId) : Prop where
  free : M g = none
  at_ : H[g]? = some (.cells c e (0, 0))
  size : c.size = cs.length
  one : One c
  cells : CellsIn M ρ hp cs c

structure Real (M : Mem) (ρ : Rho) (β : Nat → Option Nat) (hp : List Blk) (lo : List (Nat × List AV)) (H : Array Obj) : Prop where
  mem : ∀ g o, M g = some o → H[g]? = some o
  blk : ∀ k b, hp[k]? = some b → ∃ l c, ρ k = some l ∧ BlkAt M ρ hp H l b c
  inj : ∀ k k' l l', ρ k = some l → ρ k' = some l' → l.blk = l'.blk → k = k'
  dom : ∀ k l, ρ k = some l → k < hp.length
  var : ∀ d g cs, β d = some g → lo.lookup d = some cs → ∃ c e, VarAt M ρ hp H g cs c e
  vlt : ∀ d g, β d = some g → g < H.size
  vinj : ∀ d d' g, β d = some g → β d' = some g → d = d'
  vdis : ∀ d g k l, β d = some g → ρ k = some l → l.blk ≠ g

theorem lt_of_at {H : Array Obj} {g : Nat} {o : Obj} (h : H[g]? = some o) : g < H.size := (Array.getElem?_eq_some_iff.1 h).1

theorem Real.plt {M : Mem} {ρ : Rho} {β : Nat → Option Nat} {hp : List Blk} {lo : List (Nat × List AV)} {H : Array Obj} (h : Real M ρ β hp lo H) {k : Nat} {l : Plc} (hl : ρ k = some l) : l.blk < H.size := by
  have hk := h.dom k l hl
  obtain ⟨l', c, hl', hb⟩ := h.blk k _ (List.getElem?_eq_getElem hk)
  rw [hl] at hl'
  cases hl'
  exact lt_of_at hb.at_

def upd {α : Type} (f : Nat → Option α) (k : Nat) (v : α) : Nat → Option α := fun i => if i = k then some v else f i
theorem upd_same {α : Type} (f : Nat → Option α) (k : Nat) (v : α) : upd f k v k = some v := by simp [upd]
theorem upd_ne {α : Type} (f : Nat → Option α) {k i : Nat} (v : α) (h : i ≠ k) : upd f k v i = f i := by simp [upd, h]

section
variable {M : Mem} {ρ : Rho} {β : Nat → Option Nat} {hp : List Blk} {lo : List (Nat × List AV)} {H H' : Array Obj}

theorem lookup_del {α : Type} (d t : Nat) (l : List (Nat × α)) : (del d l).lookup t = if t = d then none else l.lookup t := by
  induction l with
  | nil => simp [del]
  | cons p l ih =>
    obtain ⟨s, v⟩ := p
    simp only [del]
    by_cases hs : s = d
    · subst hs
      simp only [BEq.rfl, cond_true, ih]
      by_cases ht : t = s
      · simp [ht]
      · have : (t == s) = false := by simpa using ht
        simp [ht, List.lookup_cons, this]
    · have h1 : (s == d) = false := by simpa using hs
      simp only [h1, cond_false, List.lookup_cons]
      by_cases ht : t = s
      · subst ht; simp [hs]
      · have : (t == s) = false := by simpa using ht
        simp [this, ih]

theorem lookup_put {α : Type} (d t : Nat) (v : α) (l : List (Nat × α)) : ((d, v) :: del d l).lookup t = if t = d then some v else l.lookup t := by
  rw [List.lookup_cons]
  by_cases h : t = d
  · simp [h]
  · have : (t == d) = false := by simpa using h
    simp [h, this, lookup_del]

/-- Nothing that is told has turned; there may be more. -/
theorem Real.keep (h : Real M ρ β hp lo H) (hsz : H.size ≤ H'.size) (hH : ∀ g, g < H.size → H'[g]? = H[g]?) : Real M ρ β hp lo H' := by
  refine ⟨fun g o hg => ?_, fun k b hb => ?_, h.inj, h.dom, fun d g cs hd hl => ?_, fun d g hd => Nat.lt_of_lt_of_le (h.vlt d g hd) hsz, h.vinj, h.vdis⟩
  · have := h.mem g o hg
    rw [hH g (lt_of_at this)]; exact this
  · obtain ⟨l, c, hl, hb'⟩ := h.blk k b hb
    exact ⟨l, c, hl, { hb' with at_ := by rw [hH _ (lt_of_at hb'.at_)]; exact hb'.at_ }⟩
  · obtain ⟨c, e, hv⟩ := h.var d g cs hd hl
    exact ⟨c, e, { hv with at_ := by rw [hH _ (lt_of_at hv.at_)]; exact hv.at_ }⟩

/-- A new block that is never written. -/
theorem Real.frozen (h : Real M ρ β hp lo H) (o : Obj) : Real (upd M H.size o) ρ β hp lo (H.push o) ∧ SubM M (upd M H.size o) := by
  have hn : ∀ g o', M g = some o' → g ≠ H.size := fun g o' hg => Nat.ne_of_lt (lt_of_at (h.mem g o' hg))
  have hsub : SubM M (upd M H.size o) := fun g o' hg => by rw [upd_ne _ _ (hn g o' hg)]; exact hg
  have hpush : ∀ g, g < H.size → (H.push o)[g]? = H[g]? := fun g hg => by rw [Array.getElem?_push, if_neg (by omega)]
  refine ⟨⟨fun g o' hg => ?_, fun k b hb => ?_, h.inj, h.dom, fun d g cs hd hl => ?_, fun d g hd => by have := h.vlt d g hd; rw [Array.size_push]; omega, h.vinj, h.vdis⟩, hsub⟩
  · by_cases hgs : g = H.size
    · subst hgs; rw [upd_same] at hg; cases hg; simp
    · rw [upd_ne _ _ hgs] at hg
      have := h.mem g o' hg
      rw [hpush g (lt_of_at this)]; exact this
  · obtain ⟨l, c, hl, hb'⟩ := h.blk k b hb
    have hlt := lt_of_at hb'.at_
    exact ⟨l, c, hl, ⟨by rw [upd_ne _ _ (by omega)]; exact hb'.free, by rw [hpush _ hlt]; exact hb'.at_, hb'.size, hb'.pos, hb'.room, hb'.len, hb'.one, hb'.rows.mono hsub (Ext.refl _ _)⟩⟩
  · obtain ⟨c, e, hv⟩ := h.var d g cs hd hl
    have hlt := lt_of_at hv.at_
    exact ⟨c, e, ⟨by rw [upd_ne _ _ (by omega)]; exact hv.free, by rw [hpush _ hlt]; exact hv.at_, hv.size, hv.one, hv.cells.mono hsub (Ext.refl _ _)⟩⟩

theorem Ext.snoc (b : Blk) (l : Plc) : Ext ρ hp (upd ρ hp.length l) (hp ++ [b]) := by
  intro k b' l' hb hl
  have hk : k < hp.length := (List.getElem?_eq_some_iff.1 hb).1
  exact ⟨b', l', by rw [List.getElem?_append_left hk]; exact hb, by rw [upd_ne _ _ (by omega)]; exact hl, rfl, Nat.le_refl _, fun _ => rfl⟩

/-- A new block of the heap. -/
theorem Real.snoc (h : Real M ρ β hp lo H) (b : Blk) (c : Array Value) (hpos : 0 < b.sz) (hroom : b.rows.length * b.sz ≤ c.size) (hlen : ∀ row ∈ b.rows, row.length = b.sz) (hone : One c)
    (hrows : RowsIn M ρ hp b.sz b.rows c) :
    Real M (upd ρ hp.length ⟨H.size, c.size⟩) β (hp ++ [b]) lo (H.push (.cells c b.e (0, 0))) := by
  have hE := Ext.snoc (ρ := ρ) (hp := hp) b ⟨H.size, c.size⟩
  have hpush : ∀ g, g < H.size → (H.push (.cells c b.e (0, 0)))[g]? = H[g]? := fun g hg => by rw [Array.getElem?_push, if_neg (by omega)]
  refine ⟨fun g o hg => ?_, fun k b' hb => ?_, fun k k' l l' hl hl' he => ?_, fun k l hl => ?_, fun d g cs hd hl => ?_, fun d g hd => by have := h.vlt d g hd; rw [Array.size_push]; omega, h.vinj, fun d g k l hd hl => ?_⟩
  · have := h.mem g o hg
    rw [hpush g (lt_of_at this)]; exact this
  · by_cases hk : k < hp.length
    · rw [List.getElem?_append_left hk] at hb
      obtain ⟨l, c', hl, hb'⟩ := h.blk k b' hb
      exact ⟨l, c', by rw [upd_ne _ _ (by omega)]; exact hl, ⟨hb'.free, by rw [hpush _ (lt_of_at hb'.at_)]; exact hb'.at_, hb'.size, hb'.pos, hb'.room, hb'.len, hb'.one, hb'.rows.mono (SubM.refl _) hE⟩⟩
    · have hk' : k = hp.length := by
        have := (List.getElem?_eq_some_iff.1 hb).1
        rw [List.length_append] at this
        simp at this
        omega
      subst hk'
      rw [List.getElem?_append_right (Nat.le_refl _)] at hb
      simp at hb
      subst hb
      refine ⟨_, c, upd_same _ _ _, ⟨?_, by simp, rfl, hpos, hroom, hlen, hone, hrows.mono (SubM.refl _) hE⟩⟩
      cases hM : M H.size with
      | none => rfl
      | some o => exact absurd (lt_of_at (h.mem _ _ hM)) (Nat.lt_irrefl _)
  · by_cases h1 : k = hp.length
    · by_cases h2 : k' = hp.length
      · omega
      · rw [upd_ne _ _ h2] at hl'
        subst h1
        rw [upd_same] at hl
        cases hl
        have := h.plt hl'
        have he' : H.size = l'.blk := he
        omega
    · rw [upd_ne _ _ h1] at hl
      by_cases h2 : k' = hp.length
      · subst h2
        rw [upd_same] at hl'
        cases hl'
        have := h.plt hl
        have he' : l.blk = H.size := he
        omega
      · rw [upd_ne _ _ h2] at hl'
        exact h.inj k k' l l' hl hl' he
  · rw [List.length_append]
    by_cases h1 : k = hp.length
    · simp [h1]
    · rw [upd_ne _ _ h1] at hl
      have := h.dom k l hl
      omega
  · obtain ⟨c', e, hv⟩ := h.var d g cs hd hl
    exact ⟨c', e, ⟨hv.free, by rw [hpush _ (lt_of_at hv.at_)]; exact hv.at_, hv.size, hv.one, hv.cells.mono (SubM.refl _) hE⟩⟩
  · by_cases h1 : k = hp.length
    · subst h1
      rw [upd_same] at hl
      cases hl
      have := h.vlt d g hd
      show H.size ≠ g
      omega
    · rw [upd_ne _ _ h1] at hl
      exact h.vdis d g k l hd hl

/-- A new variable of slot d. -/
theorem Real.newVar (h : Real M ρ β hp lo H) (d : Nat) (cs : List AV) (c : Array Value) (e : TypeId) (hs : c.size = cs.length) (hone : One c) (hc : CellsIn M ρ hp cs c) :
    Real M ρ (upd β d H.size) hp ((d, cs) :: del d lo) (H.push (.cells c e (0, 0))) := by
  have hpush : ∀ g, g < H.size → (H.push (.cells c e (0, 0)))[g]? = H[g]? := fun g hg => by rw [Array.getElem?_push, if_neg (by omega)]
  refine ⟨fun g o hg => ?_, fun k b hb => ?_, h.inj, h.dom, fun d' g cs' hd hl => ?_, fun d' g hd => ?_, fun d1 d2 g h1 h2 => ?_, fun d' g k l hd hl => ?_⟩
  · have := h.mem g o hg
    rw [hpush g (lt_of_at this)]; exact this
  · obtain ⟨l, c', hl, hb'⟩ := h.blk k b hb
    exact ⟨l, c', hl, { hb' with at_ := by rw [hpush _ (lt_of_at hb'.at_)]; exact hb'.at_ }⟩
  · rw [lookup_put] at hl
    by_cases h1 : d' = d
    · subst h1
      rw [upd_same] at hd
      cases hd
      simp at hl
      subst hl
      refine ⟨c, e, ?_, by simp, hs, hone, hc⟩
      cases hM : M H.size with
      | none => rfl
      | some o => exact absurd (lt_of_at (h.mem _ _ hM)) (Nat.lt_irrefl _)
    · rw [upd_ne _ _ h1] at hd
      rw [if_neg h1] at hl
      obtain ⟨c', e', hv⟩ := h.var d' g cs' hd hl
      exact ⟨c', e', { hv with at_ := by rw [hpush _ (lt_of_at hv.at_)]; exact hv.at_ }⟩
  · rw [Array.size_push]
    by_cases h1 : d' = d
    · subst h1; rw [upd_same] at hd; cases hd; omega
    · rw [upd_ne _ _ h1] at hd; have := h.vlt d' g hd; omega
  · by_cases e1 : d1 = d
    · by_cases e2 : d2 = d
      · omega
      · rw [upd_ne _ _ e2] at h2
        subst e1
        rw [upd_same] at h1
        cases h1
        have := h.vlt d2 _ h2
        omega
    · rw [upd_ne _ _ e1] at h1
      by_cases e2 : d2 = d
      · subst e2
        rw [upd_same] at h2
        cases h2
        have := h.vlt d1 _ h1
        omega
      · rw [upd_ne _ _ e2] at h2
        exact h.vinj d1 d2 g h1 h2
  · by_cases e1 : d' = d
    · subst e1
      rw [upd_same] at hd
      cases hd
      have := h.plt hl
      omega
    · rw [upd_ne _ _ e1] at hd
      exact h.vdis d' g k l hd hl

theorem Ext.set {k : Nat} {b b' : Blk} {l l' : Plc} (hb : hp[k]? = some b) (hl : ρ k = some l) (hs : b'.sz = b.sz) (hr : b.rows.length ≤ b'.rows.length) (he : b'.rows.length = b.rows.length → l' = l) :
    Ext ρ hp (upd ρ k l') (hp.set k b') := by
  intro i bi li hbi hli
  by_cases h1 : i = k
  · subst h1
    rw [hb] at hbi; cases hbi
    rw [hl] at hli; cases hli
    have hk : i < hp.length := (List.getElem?_eq_some_iff.1 hb).1
    exact ⟨b', l', by simp [hk], upd_same _ _ _, hs, hr, he⟩
  · exact ⟨bi, li, by rw [List.getElem?_set_ne (Ne.symm h1)]; exact hbi, by rw [upd_ne _ _ h1]; exact hli, rfl, Nat.le_refl _, fun _ => rfl⟩

/-- A block of the heap holds other rows, in its place or in a new one. -/
theorem Real.setBlk (h : Real M ρ β hp lo H) {k : Nat} {b b' : Blk} {l l' : Plc} (hb : hp[k]? = some b) (hl : ρ k = some l) (hs : b'.sz = b.sz) (hr : b.rows.length ≤ b'.rows.length)
    (he : b'.rows.length = b.rows.length → l' = l) (hsz : H.size ≤ H'.size) (hH : ∀ g, g < H.size → g ≠ l.blk → H'[g]? = H[g]?) (hplace : l'.blk = l.blk ∨ H.size ≤ l'.blk)
    {c' : Array Value} (hat : H'[l'.blk]? = some (.cells c' b'.e (0, 0))) (hsize : c'.size = l'.n) (hroom : b'.rows.length * b'.sz ≤ l'.n) (hlen : ∀ row ∈ b'.rows, row.length = b'.sz) (hone : One c')
    (hrows : RowsIn M (upd ρ k l') (hp.set k b') b'.sz b'.rows c') : Real M (upd ρ k l') β (hp.set k b') lo H' := by
  have hE : Ext ρ hp (upd ρ k l') (hp.set k b') := Ext.set hb hl hs hr he
  have hk : k < hp.length := (List.getElem?_eq_some_iff.1 hb).1
  obtain ⟨l0, c0, hl0, hb0⟩ := h.blk k b hb
  rw [hl] at hl0
  cases hl0
  have hMl : ∀ g o, M g = some o → g ≠ l.blk := fun g o hg e => by rw [e, hb0.free] at hg; cases hg
  have hfresh : H.size ≤ l'.blk → M l'.blk = none := fun hge => by
    cases hM : M l'.blk with
    | none => rfl
    | some o => exact absurd (lt_of_at (h.mem _ _ hM)) (by omega)
  refine ⟨fun g o hg => ?_, fun i bi hbi => ?_, fun i j li lj hi hj e => ?_, fun i li hi => ?_, fun d g cs hd hlk => ?_, fun d g hd => Nat.lt_of_lt_of_le (h.vlt d g hd) hsz, h.vinj, fun d g i li hd hi => ?_⟩
  · have := h.mem g o hg
    rw [hH g (lt_of_at this) (hMl g o hg)]; exact this
  · by_cases h1 : i = k
    · subst h1
      have : bi = b' := by rw [List.getElem?_set_self hk] at hbi; exact (Option.some.inj hbi).symm
      subst this
      exact ⟨l', c', upd_same _ _ _, ⟨hplace.elim (fun e => by rw [e]; exact hb0.free) hfresh, hat, hsize, by rw [hs]; exact hb0.pos, hroom, hlen, hone, hrows⟩⟩
    · rw [List.getElem?_set_ne (Ne.symm h1)] at hbi
      obtain ⟨li, ci, hli, hbi'⟩ := h.blk i bi hbi
      have hne : li.blk ≠ l.blk := fun e => h1 (h.inj i k li l hli hl e)
      exact ⟨li, ci, by rw [upd_ne _ _ h1]; exact hli, ⟨hbi'.free, by rw [hH _ (lt_of_at hbi'.at_) hne]; exact hbi'.at_, hbi'.size, hbi'.pos, hbi'.room, hbi'.len, hbi'.one, hbi'.rows.mono (SubM.refl _) hE⟩⟩
  · by_cases h1 : i = k
    · by_cases h2 : j = k
      · omega
      · rw [upd_ne _ _ h2] at hj
        subst h1
        rw [upd_same] at hi
        cases hi
        rcases hplace with hp' | hp'
        · exact absurd (h.inj i j l lj hl hj (hp'.symm.trans e)) (Ne.symm h2)
        · have := h.plt hj; omega
    · rw [upd_ne _ _ h1] at hi
      by_cases h2 : j = k
      · subst h2
        rw [upd_same] at hj
        cases hj
        rcases hplace with hp' | hp'
        · exact absurd (h.inj i j li l hi hl (e.trans hp')) h1
        · have := h.plt hi; omega
      · rw [upd_ne _ _ h2] at hj
        exact h.inj i j li lj hi hj e
  · rw [List.length_set]
    by_cases h1 : i = k
    · omega
    · rw [upd_ne _ _ h1] at hi; exact h.dom i li hi
  · obtain ⟨c, e, hv⟩ := h.var d g cs hd hlk
    have hne : g ≠ l.blk := fun e => h.vdis d g k l hd hl e.symm
    exact ⟨c, e, ⟨hv.free, by rw [hH _ (lt_of_at hv.at_) hne]; exact hv.at_, hv.size, hv.one, hv.cells.mono (SubM.refl _) hE⟩⟩
  · by_cases h1 : i = k
    · subst h1
      rw [upd_same] at hi
      cases hi
      rcases hplace with hp' | hp'
      · rw [hp']; exact h.vdis d g i l hd hl
      · have := h.vlt d g hd; omega
    · rw [upd_ne _ _ h1] at hi; exact h.vdis d g i li hd hi

/-- The variable of a slot holds other cells. -/
theorem Real.setVar (h : Real M ρ β hp lo H) {d g : Nat} {cs' : List AV} (hd : β d = some g) (hsz : H.size ≤ H'.size) (hH : ∀ i, i < H.size → i ≠ g → H'[i]? = H[i]?) (hfree : M g = none)
    {c' : Array Value} {e : TypeId} (hat : H'[g]? = some (.cells c' e (0, 0))) (hs : c'.size = cs'.length) (hone : One c') (hc : CellsIn M ρ hp cs' c') : Real M ρ β hp ((d, cs') :: del d lo) H' := by
  refine ⟨fun i o hi => ?_, fun k b hb => ?_, h.inj, h.dom, fun d' g' cs hd' hl => ?_, fun d' g' hd' => Nat.lt_of_lt_of_le (h.vlt d' g' hd') hsz, h.vinj, h.vdis⟩
  · have := h.mem i o hi
    rw [hH i (lt_of_at this) (fun e => by rw [e, hfree] at hi; cases hi)]; exact this
  · obtain ⟨l, c, hl, hb'⟩ := h.blk k b hb
    exact ⟨l, c, hl, { hb' with at_ := by rw [hH _ (lt_of_at hb'.at_) (h.vdis d g k l hd hl)]; exact hb'.at_ }⟩
  · rw [lookup_put] at hl
    by_cases h1 : d' = d
    · subst h1
      rw [hd] at hd'
      cases hd'
      simp at hl
      subst hl
      exact ⟨c', e, hfree, hat, hs, hone, hc⟩
    · rw [if_neg h1] at hl
      obtain ⟨c, e', hv⟩ := h.var d' g' cs hd' hl
      exact ⟨c, e', { hv with at_ := by rw [hH _ (lt_of_at hv.at_) (fun e => h1 (h.vinj d' d g' hd' (by rw [e]; exact hd)))]; exact hv.at_ }⟩

/-- Fewer variables are told. -/
theorem Real.forget (h : Real M ρ β hp lo H) {lo' : List (Nat × List AV)} (hl : ∀ d cs, lo'.lookup d = some cs → lo.lookup d = some cs) : Real M ρ β hp lo' H :=
  { h with var := fun d g cs hd h' => h.var d g cs hd (hl d cs h') }

end
end Go.Proofs.Ytjdciikfbinchaa.Abs
