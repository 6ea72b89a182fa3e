/- The abstract machine: a call that writes into one block alone, told where that block is all there is. -/
import Derived.Test.YtjdciikfbinchaaAbs30
namespace Go.Proofs.Ytjdciikfbinchaa.Abs
open Go

/-- the block that values name, if it is one alone -/
def oneRef : List Nat → Option Nat
  | [] => none
  | [i] => some i
  | i :: j :: l => bif i == j then oneRef (j :: l) else none
theorem oneRef_all : ∀ {l : List Nat} {i : Nat}, oneRef l = some i → ∀ j ∈ l, j = i
  | [], i, h, j, hj => by cases hj
  | [a], i, h, j, hj => by cases h; simpa using hj
  | a :: b :: l, i, h, j, hj => by
    simp only [oneRef] at h
    by_cases e : a = b
    · subst e
      simp only [BEq.rfl, cond_true] at h
      have ih := oneRef_all h
      rcases List.mem_cons.1 hj with rfl | hj
      · exact ih _ (by simp)
      · exact ih j hj
    · have : (a == b) = false := by simpa using e
      rw [this] at h
      cases h

theorem topsL_get : ∀ {l : List AV} {ks : List Nat}, topsL l = some ks → ∀ (j : Nat) (x : AV), l[j]? = some x → ∃ ks', tops x = some ks'
  | [], ks, h, j, x, hx => by simp at hx
  | v :: l, ks, h, j, x, hx => by
    simp only [topsL] at h
    split at h
    · rename_i a b ha hb
      cases j with
      | zero => simp at hx; subst hx; exact ⟨a, ha⟩
      | succ j => exact topsL_get hb j x (by simpa using hx)
    · cases h
theorem renL_get' (k k' : Nat) : ∀ (l : List AV) (j : Nat), (renL k k' l)[j]? = (l[j]?).map (ren k k')
  | [], j => rfl
  | v :: l, 0 => rfl
  | v :: l, j + 1 => by simpa [renL] using renL_get' k k' l j
theorem renL_len' (k k' : Nat) : ∀ (l : List AV), (renL k k' l).length = l.length
  | [] => rfl
  | v :: l => by simp [renL, renL_len' k k' l]

/-- a block of numbers, as rows -/
structure NB where
  e : Nat
  sz : Nat
  k : IntKind
  n : Nat
  q : Nat → Nat → Int
def NB.blk (b : NB) : Blk := ⟨b.e, b.sz, (List.range b.n).map fun i => cellsI b.k b.sz (b.q i)⟩
def typB (T : Nat → Option TI) (b : Blk) : Option NB := (kindOf T b.e).bind fun (k, sz) => if b.sz = sz ∧ intRows k sz b.rows = true then some ⟨b.e, sz, k, b.rows.length, qOf b.rows⟩ else none
theorem typB_blk {T : Nat → Option TI} {b : Blk} {nb : NB} (h : typB T b = some nb) : nb.blk = b := by
  unfold typB at h
  simp only [Option.bind_eq_some_iff] at h
  obtain ⟨⟨k, sz⟩, _, h⟩ := h
  simp only at h
  split at h
  · rename_i hc
    cases h
    obtain ⟨e, s, rows⟩ := b
    simp only at hc
    simp only [NB.blk, hc.1, Blk.mk.injEq, true_and]
    apply List.ext_getElem?
    intro i
    rw [List.getElem?_map]
    by_cases hi : i < rows.length
    · rw [List.getElem?_range hi]
      simp only [Option.map_some]
      rw [cells_qOf hc.2 (List.getElem?_eq_getElem hi), List.getElem?_eq_getElem hi]
    · rw [List.getElem?_eq_none (l := List.range _) (by simp; omega), List.getElem?_eq_none (by omega)]
      rfl
  · cases h

/-- a call where one block is all there is gives this, and leaves the block so -/
def TellsM (P : Program) (f : Nat) (vs : List AV) (b : NB) (v : AV) (b' : NB) : Prop := ∃ (R : Rec) (c : Nat), RecSound P R ∧ R f vs [b.blk] = some (v, [b'.blk], c)

abbrev MTbl := Nat → Option (List AV → NB → Option (AV × NB))
def MTblOk (P : Program) (mt : MTbl) : Prop := ∀ f g, mt f = some g → ∀ vs b v b', g vs b = some (v, b') → TellsM P f vs b v b' ∧ allNoL vs = true ∧ b'.e = b.e ∧ b'.sz = b.sz ∧ b'.k = b.k ∧ b'.n = b.n ∧ clean v = true

def mutOf (T : Nat → Option TI) (mt : MTbl) : Rec := fun f vs hp => match mt f with
  | some g => (oneRef (refsL vs)).bind fun i => (hp[i]?).bind fun b => if (topsL vs).isSome = true then (typB T b).bind fun nb => (g (renL i 0 vs) nb).map fun y => (shiftV i y.1, hp.set i y.2.blk, i) else none
  | none => none

theorem mutOf_some {T : Nat → Option TI} {mt : MTbl} {f : Nat} {vs : List AV} {hp : List Blk} {y : AV × List Blk × Nat} (h : mutOf T mt f vs hp = some y) :
    ∃ g i b nb v nb', mt f = some g ∧ oneRef (refsL vs) = some i ∧ hp[i]? = some b ∧ (topsL vs).isSome = true ∧ typB T b = some nb ∧ g (renL i 0 vs) nb = some (v, nb') ∧ y = (shiftV i v, hp.set i nb'.blk, i) := by
  unfold mutOf at h
  split at h
  · rename_i g hg
    simp only [Option.bind_eq_some_iff] at h
    obtain ⟨i, hi, b, hb, h⟩ := h
    split at h
    · rename_i ht
      simp only [Option.bind_eq_some_iff, Option.map_eq_some_iff] at h
      obtain ⟨nb, hnb, ⟨v, nb'⟩, hgv, rfl⟩ := h
      exact ⟨g, i, b, nb, v, nb', hg, hi, hb, ht, hnb, hgv, rfl⟩
    · cases h
  · cases h

theorem mutOf_keeps (T : Nat → Option TI) (mt : MTbl) : Keeps (mutOf T mt) := by
  intro f vs hp v hp' c h
  obtain ⟨g, i, b, nb, v', nb', _, _, hb, _, _, _, he⟩ := mutOf_some h
  cases he
  have := (List.getElem?_eq_some_iff.1 hb).1
  exact ⟨by simp, by omega, fun k hk => List.getElem?_set_ne (by omega)⟩

theorem refsL_elem : ∀ {l : List AV} {j : Nat} {x : AV}, l[j]? = some x → ∀ k ∈ refs x, k ∈ refsL l
  | [], j, x, h => by simp at h
  | v :: l, 0, x, h => by simp at h; subst h; intro k hk; simp [refsL, hk]
  | v :: l, j + 1, x, h => fun k hk => by have := refsL_elem (l := l) (j := j) (by simpa using h) k hk; simp [refsL, this]

theorem NB.cell_int {b : NB} {i j : Nat} {row : List AV} {x : AV} (h : b.blk.rows[i]? = some row) (hx : row[j]? = some x) : ∃ n, x = .int b.k n := by
  simp only [NB.blk, List.getElem?_map, Option.map_eq_some_iff] at h
  obtain ⟨a, _, rfl⟩ := h
  rw [cellsI_get] at hx
  split at hx
  · cases hx; exact ⟨_, rfl⟩
  · cases hx

theorem mutOf_sound {P : Program} {T : Nat → Option TI} {mt : MTbl} (ht : MTblOk P mt) : RecSound P (mutOf T mt) := by
  intro f vs hp v hp' i h hL
  obtain ⟨g, i0, b, nb, v1, nb', hg, hone, hb, htops, hnb, hgv, he⟩ := mutOf_some h
  cases he
  obtain ⟨⟨R, c0, hRS, hRun⟩, hL2, he1, he2, he3, he4, hcl⟩ := ht f g hg _ nb v1 nb' hgv
  obtain ⟨hfn, hcalls⟩ := hRS f _ _ v1 _ c0 hRun hL2
  refine ⟨hfn, fun M ρ β lo w xs hR hl hx => ?_⟩
  have hbl := typB_blk hnb
  obtain ⟨l, cc, hli, hat⟩ := hR.blk i b hb
  have hilt : i < hp.length := (List.getElem?_eq_some_iff.1 hb).1
  -- all but this block is frozen
  let M2 : Mem := fun g => if g = l.blk then none else w.heap[g]?
  let ρ2 : Rho := fun k => if k = 0 then some l else none
  have hsub : SubM M M2 := fun g o hg => by
    show (if g = l.blk then none else w.heap[g]?) = some o
    rw [if_neg (by rintro rfl; rw [hat.free] at hg; cases hg)]
    exact hR.mem g o hg
  have hR2 : Real M2 ρ2 (fun _ => none) [b] [] w.heap := by
    refine ⟨fun g o hg => ?_, fun k b' hk => ?_, fun k k' l1 l2 h1 h2 _ => ?_, fun k l1 h1 => ?_, fun d g cs hd => (by cases hd), fun d g hd => (by cases hd), fun d d' g hd => (by cases hd), fun d g k l1 hd => (by cases hd)⟩
    · have hg' : (if g = l.blk then none else w.heap[g]?) = some o := hg
      split at hg'
      · cases hg'
      · exact hg'
    · cases k with
      | zero =>
        simp at hk
        subst hk
        refine ⟨l, cc, rfl, ⟨by show (if l.blk = l.blk then none else _) = none; rw [if_pos rfl], hat.at_, hat.size, hat.pos, hat.room, hat.len, hat.one, fun i' row j x u h1 h2 h3 => ?_⟩⟩
        rw [← hbl] at h1
        obtain ⟨n, rfl⟩ := NB.cell_int h1 h2
        rw [hbl] at h1
        rw [(hat.rows i' row j _ u h1 h2 h3).sc' rfl]
        exact .int _ _
      | succ k => simp at hk
    · have h1' : (if k = 0 then some l else none) = some l1 := h1
      have h2' : (if k' = 0 then some l else none) = some l2 := h2
      split at h1'
      · split at h2'
        · omega
        · cases h2'
      · cases h1'
    · have h1' : (if k = 0 then some l else none) = some l1 := h1
      split at h1'
      · simp; omega
      · cases h1'
  have hargs : ∀ (j : Nat) (x : AV) (u : Value), (renL i 0 vs)[j]? = some x → xs[j]? = some u → VRel M2 ρ2 [nb.blk] x u := by
    intro j x u hxj huj
    rw [renL_get'] at hxj
    simp only [Option.map_eq_some_iff] at hxj
    obtain ⟨x0, hx0, rfl⟩ := hxj
    obtain ⟨ks0, hks0⟩ := Option.isSome_iff_exists.1 htops
    obtain ⟨ks, hks⟩ := topsL_get hks0 j x0 hx0
    have hv0 := hx j x0 u hx0 huj
    have hrr := ren_rel (ρ' := ρ2) (hp' := [nb.blk]) (k := i) (k' := 0) (by rw [hb, hbl]; rfl) (by rw [hli]; rfl) hv0 ks hks
    refine (hrr.2 fun a ha => ?_).mono hsub (Ext.refl _ _)
    rw [← hrr.1] at ha
    exact oneRef_all hone a (refsL_elem hx0 a ha)
  refine (hcalls M2 ρ2 (fun _ => none) [] w xs (by rw [hbl]; exact hR2) (by rw [hl, renL_len']) hargs).mono fun en w' ⟨u, he, M', ρ', hM, hE, hR', hv, hA⟩ => ?_
  have hlen : nb'.blk.rows.length = nb.blk.rows.length := by simp [NB.blk, he4]
  obtain ⟨b1, l1, hb1, hl1, hs1, _, hpl⟩ := hE 0 nb.blk l rfl rfl
  have hb1' : b1 = nb'.blk := by simpa using hb1.symm
  subst hb1'
  have hll := hpl hlen
  subst hll
  obtain ⟨l2, c2, hl2, hat2⟩ := hR'.blk 0 nb'.blk rfl
  rw [hl1] at hl2
  cases hl2
  have hold : ∀ g, g < w.heap.size → g ≠ l1.blk → w'.heap[g]? = w.heap[g]? := fun g hg hne => by
    have h1 : M2 g = some w.heap[g] := by
      show (if g = l1.blk then none else w.heap[g]?) = _
      rw [if_neg hne, Array.getElem?_eq_getElem hg]
    rw [hR'.mem g _ (hM g _ h1), Array.getElem?_eq_getElem hg]
  have hrows : RowsIn M (upd ρ i l1) (hp.set i nb'.blk) nb'.blk.sz nb'.blk.rows c2 := fun i' row j x u h1 h2 h3 => by
    obtain ⟨n, rfl⟩ := NB.cell_int h1 h2
    rw [(hat2.rows i' row j _ u h1 h2 h3).sc' rfl]
    exact .int _ _
  have hbsz : nb'.blk.sz = b.sz := by rw [← hbl]; exact he2
  have hblen : b.rows.length = nb'.blk.rows.length := by rw [hlen, hbl]
  have hRn := hR.setBlk (H' := w'.heap) (b' := nb'.blk) (l' := l1) hb hli hbsz (by omega) (fun _ => rfl) hA.size hold (.inl rfl) hat2.at_ hat2.size hat2.room hat2.len hat2.one hrows
  refine ⟨u, he, M, upd ρ i l1, SubM.refl _, Ext.set hb hli hbsz (by omega) (fun _ => rfl), hRn, ?_, hA⟩
  refine shift_rel (d := i) (fun k b0 l0 hk hl0 => ?_) hv hcl
  have hk0 : k = 0 := by
    have := (List.getElem?_eq_some_iff.1 hk).1
    simp at this
    omega
  subst hk0
  have hb0 : b0 = nb'.blk := by simpa using hk.symm
  subst hb0
  rw [hl1] at hl0
  cases hl0
  exact ⟨nb'.blk, by simp [hilt], rfl, rfl, upd_same _ _ _⟩

/-- both tables -/
def oraAll (T : Nat → Option TI) (tbl : Tbl) (mt : MTbl) : Rec := fun f vs hp => match tbl f with
  | some _ => oraOf T tbl f vs hp
  | none => mutOf T mt f vs hp
theorem oraAll_keeps (T : Nat → Option TI) (tbl : Tbl) (mt : MTbl) : Keeps (oraAll T tbl mt) := by
  intro f vs hp v hp' c h
  unfold oraAll at h
  split at h
  · exact oraOf_keeps T tbl f vs hp v hp' c h
  · exact mutOf_keeps T mt f vs hp v hp' c h
theorem oraAll_sound {P : Program} {T : Nat → Option TI} {tbl : Tbl} {mt : MTbl} (h1 : TblOk P tbl) (h2 : MTblOk P mt) : RecSound P (oraAll T tbl mt) := by
  intro f vs hp v hp' c h hL
  unfold oraAll at h
  split at h
  · exact oraOf_sound h1 f vs hp v hp' c h hL
  · exact mutOf_sound h2 f vs hp v hp' c h hL

end Go.Proofs.Ytjdciikfbinchaa.Abs
