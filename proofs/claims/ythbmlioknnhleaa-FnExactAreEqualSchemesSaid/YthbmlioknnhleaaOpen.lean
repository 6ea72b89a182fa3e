/- What is handed to a law, read as data, is what the abstract machine is told. -/
import Derived.Test.YthbmlioknnhleaaAbsD
import Derived.OpenShut
import Derived.WideShapes
import Derived.ChangeSame
namespace Go.Proofs.Ythbmlioknnhleaa.Abs
open Go

/-- the kinds of a type's cells, where all of them are whole numbers and lie one behind the other -/
def kindsF (P : Program) (g : Nat → Option (List IntKind)) : List Field → Nat → Option (List IntKind)
  | [], _ => some []
  | f :: fs, at_ => match g f.type with
    | some l => if f.offset = at_ ∧ P.cellsOf f.type = l.length then (kindsF P g fs (at_ + l.length)).map (l ++ ·) else none
    | none => none
def kindsT (P : Program) : Nat → Nat → Option (List IntKind)
  | 0, _ => none
  | d + 1, t => match P.underlying t with
    | some (.int k) => some [k]
    | some (.array n e) => match kindsT P d e with
      | some l => if P.cellsOf e = l.length ∧ P.cellsOf t = n * l.length then some (List.replicate n l).flatten else none
      | none => none
    | some (.struct fs) => match kindsF P (kindsT P d) fs.toList 0 with
      | some l => if P.cellsOf t = l.length then some l else none
      | none => none
    | _ => none

def Cells (cs : List Value) (ks : List IntKind) : Prop := cs.length = ks.length ∧ ∀ (j : Nat) (k : IntKind), ks[j]? = some k → ∃ n, cs[j]? = some (.int k n) ∧ (Lit.int k n).wf = true

section
variable {H : Type} {enc : TypeId × Value → H} {P : Program} {W : World} {sp : Nat → Bool} {held : Bool}

theorem rep_get {α : Type} {l : List α} : ∀ {n j : Nat} {x : α}, (List.replicate n l).flatten[j]? = some x → ∃ i r, i < n ∧ r < l.length ∧ j = i * l.length + r ∧ l[r]? = some x
  | 0, j, x, h => by simp at h
  | n + 1, j, x, h => by
    rw [List.replicate_succ, List.flatten_cons] at h
    by_cases hj : j < l.length
    · rw [List.getElem?_append_left hj] at h
      exact ⟨0, j, by omega, hj, by omega, h⟩
    · rw [List.getElem?_append_right (by omega)] at h
      obtain ⟨i, r, h1, h2, h3, h4⟩ := rep_get h
      exact ⟨i + 1, r, by omega, h2, by rw [Nat.succ_mul]; omega, h4⟩
theorem rep_len {α : Type} (l : List α) : ∀ n, (List.replicate n l).flatten.length = n * l.length
  | 0 => by simp
  | n + 1 => by rw [List.replicate_succ, List.flatten_cons, List.length_append, rep_len l n, Nat.succ_mul, Nat.add_comm]

theorem kindsF_get {g : Nat → Option (List IntKind)} : ∀ {fs : List Field} {at_ : Nat} {ks : List IntKind}, kindsF P g fs at_ = some ks → ∀ (j : Nat) (k : IntKind), ks[j]? = some k → ∃ (i : Nat) (f : Field) (l : List IntKind) (r : Nat), fs[i]? = some f ∧ g f.type = some l ∧ P.cellsOf f.type = l.length ∧ l[r]? = some k ∧ at_ + j = f.offset + r
  | [], at_, ks, h, j, k, hk => by cases h; simp at hk
  | f :: fs, at_, ks, h, j, k, hk => by
    simp only [kindsF] at h
    split at h
    · rename_i l hl
      split at h
      · rename_i hc
        simp only [Option.map_eq_some_iff] at h
        obtain ⟨l', hl', rfl⟩ := h
        by_cases hj : j < l.length
        · rw [List.getElem?_append_left hj] at hk
          exact ⟨0, f, l, j, rfl, hl, hc.2, hk, by omega⟩
        · rw [List.getElem?_append_right (by omega)] at hk
          obtain ⟨i, f', l2, r, h1, h2, h3, h4, h5⟩ := kindsF_get hl' _ _ hk
          exact ⟨i + 1, f', l2, r, by simpa using h1, h2, h3, h4, by omega⟩
      · cases h
    · cases h

theorem cells_part {cs : List Value} {ks : List IntKind} {o m r : Nat} {k : IntKind} (h : Cells ((cs.drop o).take m) ks) (hk : ks[r]? = some k) : ∃ n, cs[o + r]? = some (.int k n) ∧ (Lit.int k n).wf = true := by
  obtain ⟨n, hn, hw⟩ := h.2 r k hk
  rw [List.getElem?_take] at hn
  split at hn
  · rw [List.getElem?_drop] at hn
    exact ⟨n, hn, hw⟩
  · cases hn

theorem kinds_trod : ∀ (d t : Nat) (ks : List IntKind), kindsT P d t = some ks → ∀ (fuel : Nat) (cs : List Value) (x : DataW H × List MemPlace), DataW.trod enc P W 0 sp held fuel t cs = some x → Cells cs ks
  | 0, t, ks, hk, _, _, _, _ => by cases hk
  | d + 1, t, ks, hk, fuel, cs, x, h => by
    have ih := kinds_trod d
    unfold kindsT at hk
    split at hk
    · rename_i k hu
      cases hk
      obtain ⟨n, rfl, _, hw⟩ := DataW.trod_int hu h
      refine ⟨rfl, fun j k hk => ?_⟩
      cases j with
      | zero => simp at hk; subst hk; exact ⟨n, rfl, hw⟩
      | succ j => simp at hk
    · rename_i n e hu
      split at hk
      · rename_i l hl
        split at hk
        · rename_i hc
          cases hk
          obtain ⟨xs, m, _, _, hlen, hxl, hg⟩ := DataW.trod_array hu h
          refine ⟨by rw [hlen, hc.2, rep_len], fun j k hk => ?_⟩
          obtain ⟨i, r, hi, hr, rfl, hlr⟩ := rep_get hk
          have hx := hg i hi
          rw [List.getElem?_eq_getElem (by omega)] at hx
          have := cells_part (ih e l hl _ _ _ hx) hlr
          rw [hc.1] at this
          exact this
        · cases hk
      · cases hk
    · rename_i fs hu
      split at hk
      · rename_i l hl
        split at hk
        · rename_i hc
          cases hk
          obtain ⟨xs, m, _, _, hlen, hxl, hg⟩ := DataW.trod_struct hu h
          refine ⟨by rw [hlen, hc], fun j k hk => ?_⟩
          obtain ⟨i, f, l', r, h1, h2, h3, h4, h5⟩ := kindsF_get hl j k hk
          rw [Array.getElem?_toList] at h1
          have hx := hg i f h1
          have hi : i < fs.size := (Array.getElem?_eq_some_iff.1 h1).1
          rw [List.getElem?_eq_getElem (by omega)] at hx
          have := cells_part (ih f.type l' h2 _ _ _ hx) h4
          rw [← h5, Nat.zero_add] at this
          exact this
        · cases hk
      · cases hk
    · cases hk

/-- numbers of one kind -/
def numV : Value → Int
  | .int _ n => n
  | _ => 0

/-- a slice whose elements' cells are numbers of one kind -/
theorem open_nums {t e sz fuel : Nat} {k : IntKind} {cs : List Value} {x : DataW H × List MemPlace} (ht : P.underlying t = some (.slice e)) (hk : kindsT P 6 e = some (List.replicate sz k)) (hc : P.cellsOf e = sz) (hpos : 0 < sz)
    (h : DataW.trod enc P W 0 sp held fuel t cs = some x) : ∃ (v : Value) (n : Nat) (q : Nat → Nat → Int), cs = [v] ∧ VRel (mem W) (fun _ => none) [] (.vi k sz n q) v ∧ n ≤ maxLen ∧ ∀ i j, i < n → j < sz → (Lit.int k (q i j)).wf = true := by
  rcases DataW.trod_slice ht h with ⟨rfl, _⟩ | ⟨a, len, cap, elems, rest, m, _, rfl, _, _, hl, hm, hlen, hel, _⟩
  · exact ⟨_, 0, fun _ _ => 1, rfl, .vi (.vf0 _ _ _ _) (fun _ h => by omega), Nat.zero_le _, fun i j hi => by omega⟩
  · by_cases h0 : len = 0
    · subst h0
      exact ⟨_, 0, fun _ _ => 1, rfl, .vi (.vf0 _ _ _ _) (fun _ h => by omega), Nat.zero_le _, fun i j hi => by omega⟩
    · have raw : ∀ i j, i < len → j < sz → ∃ n, W.cell? ((a.add (i * sz)).add j) = some (.int k n) ∧ (Lit.int k n).wf = true := by
        intro i j hi hj
        have he := hel i hi
        rw [List.getElem?_eq_getElem (by omega)] at he
        simp only [Option.bind_eq_some_iff] at he
        obtain ⟨cs', hcs, htr⟩ := he
        obtain ⟨_, hcl, hcg⟩ := World.cells?_some hcs
        obtain ⟨n, hn, hw⟩ := (kinds_trod 6 e _ hk _ _ _ htr).2 j k (by simp [hj])
        rw [hc] at hcg hcl
        have := hcg j hj
        rw [hn] at this
        exact ⟨n, this, hw⟩
      obtain ⟨g, off, spot⟩ := a
      obtain ⟨n0, hn0, _⟩ := raw 0 0 (by omega) hpos
      have hz : ((⟨g, off, spot⟩ : Addr).add (0 * sz)).add 0 = ⟨g, off, spot⟩ := by simp [Addr.add]
      rw [hz] at hn0
      unfold World.cell? at hn0
      cases hH : W.heap[g]? with
      | none => rw [hH] at hn0; cases hn0
      | some o =>
        rw [hH] at hn0
        cases o with
        | cells c e' fl =>
          simp only at hn0
          cases spot with
          | some s => simp at hn0
          | none =>
            have hadd : ∀ i j, ((⟨g, off, none⟩ : Addr).add (i * sz)).add j = ⟨g, off + i * sz + j, none⟩ := fun i j => by
              rw [Addr.add_mid, Addr.add_mid]
            have each : ∀ i j, i < len → j < sz → ∃ n, c[off + i * sz + j]? = some (.int k n) ∧ (Lit.int k n).wf = true := fun i j hi hj => by
              obtain ⟨n, hn, hw⟩ := raw i j hi hj
              rw [hadd] at hn
              unfold World.cell? at hn
              rw [hH] at hn
              exact ⟨n, by simpa using hn, hw⟩
            refine ⟨_, len, fun i j => numV (c[off + i * sz + j]?.getD (.int k 0)), rfl, .vi ?_ (fun _ _ m c h => by cases h), by omega, fun i j hi hj => ?_⟩
            · refine .vf (e := e') (fl := fl) (show mem W g = _ from hH) hl (fun i _ => cellsFrom_length _ _ _ _) ?_ fun i j x u hi hx hu => ?_
              · obtain ⟨n, hn, _⟩ := each (len - 1) (sz - 1) (by omega) (by omega)
                have := (Array.getElem?_eq_some_iff.1 hn).1
                have e1 : len * sz = (len - 1) * sz + sz := by
                  obtain ⟨l, rfl⟩ : ∃ l, len = l + 1 := ⟨len - 1, by omega⟩
                  rw [Nat.add_sub_cancel, Nat.succ_mul]
                omega
              · rw [cellsI_get] at hx
                split at hx
                · rename_i hj
                  cases hx
                  obtain ⟨n, hn, _⟩ := each i j hi hj
                  rw [hn] at hu
                  cases hu
                  rw [hn]
                  rfl
                · cases hx
            · obtain ⟨n, hn, hw⟩ := each i j hi hj
              simp only [hn, Option.getD_some, numV]
              exact hw
        | _ => cases hn0

/-! ### schemes -/
def fieldsOf (P : Program) (t : Nat) : Option (List (Nat × Nat)) := match P.underlying t with
  | some (.struct fs) => some (fs.toList.map fun f => (f.offset, f.type))
  | _ => none
theorem field_trod {t fuel : Nat} {cs : List Value} {x : DataW H × List MemPlace} {l : List (Nat × Nat)} (hf : fieldsOf P t = some l) (h : DataW.trod enc P W 0 sp held fuel t cs = some x) :
    cs.length = P.cellsOf t ∧ ∃ m, ∀ (i o ft : Nat), l[i]? = some (o, ft) → ∃ y, DataW.trod enc P W 0 sp held m ft ((cs.drop o).take (P.cellsOf ft)) = some y := by
  unfold fieldsOf at hf
  split at hf
  · rename_i fs hu
    cases hf
    obtain ⟨xs, m, _, _, hlen, hxl, hg⟩ := DataW.trod_struct hu h
    refine ⟨hlen, m, fun i o ft hi => ?_⟩
    rw [List.getElem?_map] at hi
    simp only [Option.map_eq_some_iff, Prod.mk.injEq] at hi
    obtain ⟨f, hf, rfl, rfl⟩ := hi
    rw [Array.getElem?_toList] at hf
    have hx := hg i f hf
    have hlt : i < fs.size := (Array.getElem?_eq_some_iff.1 hf).1
    rw [List.getElem?_eq_getElem (by omega)] at hx
    exact ⟨_, hx⟩
  · cases hf

/-- is it the type of schemes (its slices' elements: so many bytes)? -/
def schemeT (P : Program) (t ti ts e sz : Nat) : Bool :=
  (match fieldsOf P t with
    | some [(0, a), (1, b), (2, c), (3, d), (4, s)] => a == ti && (b == ti && (c == ti && (d == ti && s == ts)))
    | _ => false) && ((match P.underlying ti with | some (.int .i64) => true | _ => false) && ((match P.underlying ts with | some (.slice x) => x == e | _ => false) &&
    (P.cellsOf t == 5 && (P.cellsOf ti == 1 && (P.cellsOf ts == 1 && (P.cellsOf e == sz && (kindsT P 6 e == some (List.replicate sz .u8))))))))


theorem open_scheme {rc : Reach} {b0 t ti ts e sz : Nat} {v : Value} {d : DataW H} {ps : List MemPlace} (hT : schemeT P t ti ts e sz = true) (hpos : 0 < sz) (hval : Value.okWide P W rc b0 t v) (h : DataW.Trod enc P W 0 sp held t v d ps) :
    ∃ (p r k c : Int) (n : Nat) (q : Nat → Nat → Int), VRel (mem W) (fun _ => none) [] (.agg [.int .i64 p, .int .i64 r, .int .i64 k, .int .i64 c, .vi .u8 sz n q]) v ∧ in64 p ∧ in64 r ∧ in64 k ∧ in64 c ∧ n ≤ maxLen ∧ ∀ i j, i < n → j < sz → inB (q i j) := by
  unfold schemeT at hT
  simp only [Bool.and_eq_true] at hT
  obtain ⟨h1, h2, h3, h4, h5, h6, h7, h8⟩ := hT
  split at h1
  · rename_i a b c d' s hf
    simp only [Bool.and_eq_true, beq_iff_eq] at h1
    obtain ⟨rfl, rfl, rfl, rfl, rfl⟩ := h1
    split at h2
    · rename_i hi
      split at h3
      · rename_i x hs
        simp only [beq_iff_eq] at h3 h4 h5 h6 h7 h8
        subst h3
        obtain ⟨fuel, hfu⟩ := h
        obtain ⟨hlen, m, hfld⟩ := field_trod hf hfu
        have hst : ∃ fs, P.underlying t = some (.struct fs) := by
          unfold fieldsOf at hf
          split at hf
          · exact ⟨_, by assumption⟩
          · cases hf
        obtain ⟨fs, hst⟩ := hst
        simp only [Value.okWide, hst] at hval
        obtain ⟨ca, rfl, hsize, _⟩ := hval
        have hcs : (Value.agg ca).cells.toList = ca.toList := by simp [Value.cells]
        rw [hcs] at hlen hfld
        obtain ⟨c0, c1, c2, c3, c4, hca⟩ : ∃ c0 c1 c2 c3 c4, ca.toList = [c0, c1, c2, c3, c4] := by
          have hl5 : ca.toList.length = 5 := by rw [hlen, h4]
          match ca.toList, hl5 with
          | [c0, c1, c2, c3, c4], _ => exact ⟨_, _, _, _, _, rfl⟩
        rw [hca] at hfld
        obtain ⟨y0, hy0⟩ := hfld 0 0 _ rfl
        obtain ⟨y1, hy1⟩ := hfld 1 1 _ rfl
        obtain ⟨y2, hy2⟩ := hfld 2 2 _ rfl
        obtain ⟨y3, hy3⟩ := hfld 3 3 _ rfl
        obtain ⟨y4, hy4⟩ := hfld 4 4 _ rfl
        rw [h5] at hy0 hy1 hy2 hy3
        rw [h6] at hy4
        obtain ⟨n0, e0, _, w0⟩ := DataW.trod_int hi hy0
        obtain ⟨n1, e1, _, w1⟩ := DataW.trod_int hi hy1
        obtain ⟨n2, e2, _, w2⟩ := DataW.trod_int hi hy2
        obtain ⟨n3, e3, _, w3⟩ := DataW.trod_int hi hy3
        obtain ⟨v4, n, q, e4, hv4, hn, hq⟩ := open_nums hs h8 h7 hpos hy4
        simp at e0 e1 e2 e3 e4
        subst e0; subst e1; subst e2; subst e3; subst e4
        have hget : ∀ (j : Nat) (u : Value), ca[j]? = some u → [Value.int .i64 n0, .int .i64 n1, .int .i64 n2, .int .i64 n3, c4][j]? = some u := fun j u hu => by rw [← hca, Array.getElem?_toList]; exact hu
        refine ⟨n0, n1, n2, n3, n, q, .agg (by rw [← Array.length_toList, hca]; rfl) (fun j u hu => ?_) (fun j x u hx hu => ?_), Go.bounds_i64 w0, Go.bounds_i64 w1, Go.bounds_i64 w2, Go.bounds_i64 w3, hn, fun i j hi' hj => Go.bounds_u8 (hq i j hi' hj)⟩
        · have := hget j u hu
          match j, this with
          | 0, h => simp at h; subst h; rfl
          | 1, h => simp at h; subst h; rfl
          | 2, h => simp at h; subst h; rfl
          | 3, h => simp at h; subst h; rfl
          | 4, h => simp at h; subst h; exact hv4.one rfl fun _ e => by cases e
          | j + 5, h => simp at h
        · have := hget j u hu
          match j, this, hx with
          | 0, h, hx => simp at h hx; subst h; subst hx; exact .int _ _
          | 1, h, hx => simp at h hx; subst h; subst hx; exact .int _ _
          | 2, h, hx => simp at h hx; subst h; subst hx; exact .int _ _
          | 3, h, hx => simp at h hx; subst h; subst hx; exact .int _ _
          | 4, h, hx => simp at h hx; subst h; subst hx; exact hv4
          | j + 5, h, hx => simp at h
      · cases h3
    · cases h2
  · cases h1

def isI64 (P : Program) (t : Nat) : Bool := match P.underlying t with | some (.int .i64) => true | _ => false
theorem open_i64 {rc : Reach} {b0 t : Nat} {v : Value} {d : DataW H} {ps : List MemPlace} (hT : isI64 P t = true) (hval : Value.okWide P W rc b0 t v) (h : DataW.Trod enc P W 0 sp held t v d ps) : ∃ n : Int, VRel (mem W) (fun _ => none) [] (.int .i64 n) v ∧ in64 n := by
  unfold isI64 at hT
  split at hT
  · rename_i hu
    obtain ⟨n, rfl, _, _, hw⟩ := ChangeShapes.open_int hu hval h
    exact ⟨n, .int _ _, Go.bounds_i64 hw⟩
  · cases hT
/-- a value of so many bytes -/
def isBytesT (P : Program) (t sz : Nat) : Bool := (match P.underlying t with | some (.struct _) => true | some (.array _ _) => true | _ => false) && (P.cellsOf t == sz && kindsT P 6 t == some (List.replicate sz .u8))
theorem open_bytes {rc : Reach} {b0 t sz : Nat} {v : Value} {d : DataW H} {ps : List MemPlace} (hT : isBytesT P t sz = true) (hval : Value.okWide P W rc b0 t v) (h : DataW.Trod enc P W 0 sp held t v d ps) :
    ∃ q : Nat → Int, VRel (mem W) (fun _ => none) [] (.agg (cellsI .u8 sz q)) v ∧ ∀ j, j < sz → inB (q j) := by
  unfold isBytesT at hT
  simp only [Bool.and_eq_true, beq_iff_eq] at hT
  obtain ⟨h1, h2, h3⟩ := hT
  obtain ⟨ca, rfl, hsize⟩ : ∃ ca, v = .agg ca ∧ ca.size = P.cellsOf t := by
    unfold Value.okWide at hval
    split at h1
    · rename_i hu; simp only [hu] at hval; obtain ⟨ca, e, hs, _⟩ := hval; exact ⟨ca, e, hs⟩
    · rename_i hu; simp only [hu] at hval; obtain ⟨ca, e, hs, _⟩ := hval; exact ⟨ca, e, hs⟩
    · cases h1
  obtain ⟨fuel, hfu⟩ := h
  have hcs : (Value.agg ca).cells.toList = ca.toList := by simp [Value.cells]
  rw [hcs] at hfu
  obtain ⟨hl, hg⟩ := kinds_trod 6 t _ h3 _ _ _ hfu
  have each : ∀ j, j < sz → ∃ n, ca[j]? = some (.int .u8 n) ∧ (Lit.int .u8 n).wf = true := fun j hj => by
    obtain ⟨n, hn, hw⟩ := hg j .u8 (by simp [hj])
    exact ⟨n, by rw [← Array.getElem?_toList]; exact hn, hw⟩
  have hsz : ca.size = sz := by rw [hsize, h2]
  refine ⟨fun j => numV (ca[j]?.getD (.int .u8 0)), .agg (by rw [cellsFrom_length, hsz]) (fun j u hu => ?_) (fun j x u hx hu => ?_), fun j hj => ?_⟩
  · have hj : j < sz := by have := (Array.getElem?_eq_some_iff.1 hu).1; omega
    obtain ⟨n, hn, _⟩ := each j hj
    rw [hn] at hu
    cases hu
    rfl
  · rw [cellsI_get] at hx
    split at hx
    · rename_i hj
      cases hx
      obtain ⟨n, hn, _⟩ := each j hj
      rw [hn] at hu
      cases hu
      simp only [hn, Option.getD_some, numV]
      exact .int _ _
    · cases hx
  · obtain ⟨n, hn, hw⟩ := each j hj
    simp only [hn, Option.getD_some, numV]
    exact Go.bounds_u8 hw
end
end Go.Proofs.Ythbmlioknnhleaa.Abs
