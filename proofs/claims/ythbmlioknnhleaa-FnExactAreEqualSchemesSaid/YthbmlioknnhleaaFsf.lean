/- What is told of the library's sort is so. -/
import Derived.Test.YthbmlioknnhleaaFso
import Derived.Test.YthbmlioknnhleaaDsf
import Derived.Test.YthbmlioknnhleaaShelf
namespace Go.Proofs.Ythbmlioknnhleaa.Fn
open Go Go.Proofs.Ythbmlioknnhleaa.Abs Go.Sort Go.Shelf
set_option maxRecDepth 100000
set_option linter.unusedVariables false
set_option linter.unusedSimpArgs false
theorem compare_tells (x y : Nat → Int) : Tells Try.prog 117 [.agg (cellsI .u8 27 x), .agg (cellsI .u8 27 y)] (I (cmpP x y)) [] := by
  show Tells _ _ _ _ (absH [])
  refine fnK_sem mixed plain (tabOf_ok (l := [e_cmpBytes]) (by simp [cmpBytes_ok])) (KMTOk.none _) rfl rfl ((scompareP x y 0).trans ?_)
  have e : cmpP x y = bif !decide (cmpF x y 0 9 = 0) then cmpF x y 0 9 else bif !decide (cmpF x y 9 9 = 0) then cmpF x y 9 9 else bif !decide (cmpF x y 18 9 = 0) then cmpF x y 18 9 else 0 := by
    have e1 : cmpP x y = bif !decide (cmpF x y 0 9 = 0) then cmpF x y 0 9 else cmpF x y 9 18 := cmpF_app x y 18 9 0
    have e2 : cmpF x y 9 18 = bif !decide (cmpF x y 9 9 = 0) then cmpF x y 9 9 else cmpF x y 18 9 := cmpF_app x y 9 9 9
    have e3 : cmpF x y 18 9 = bif !decide (cmpF x y 18 9 = 0) then cmpF x y 18 9 else 0 := by
      by_cases h : cmpF x y 18 9 = 0
      · simp [h]
      · simp [h]
    rw [e1, e2, ← e3]
  rw [e, ← cmp_part x y 0 (by omega), ← cmp_part x y 9 (by omega), ← cmp_part x y 18 (by omega)]
  exact cmpT (cmpT (cmpT rfl))
theorem world_eq {W w' : World} (h1 : w'.os = W.os) (h2 : w'.tape = W.tape) (h3 : w'.output = W.output) (h4 : W.drawn ≤ w'.drawn) (h5 : W.heap.size ≤ w'.heap.size) (h6 : ∀ g, g < W.heap.size → w'.heap[g]? = W.heap[g]?) : ∃ q os', w' = grow (W.drewN q) os' := by
  refine ⟨w'.drawn - W.drawn, w'.heap.extract W.heap.size w'.heap.size, ?_⟩
  obtain ⟨h, t, d, o, out⟩ := w'
  simp only at h1 h2 h3 h4 h5 h6
  subst h1 h2 h3
  unfold grow World.drewN
  simp only [World.mk.injEq, true_and, and_true]
  refine ⟨?_, by omega⟩
  apply Array.ext_getElem?
  intro g
  by_cases hg : g < W.heap.size
  · rw [Array.getElem?_append_left hg, h6 g hg]
  · rw [Array.getElem?_append_right (by omega), Array.getElem?_extract]
    split
    · congr 1; omega
    · rw [Array.getElem?_eq_none (by omega)]
theorem encP_len (x : Pr) : (encP x).length = 27 := by simp [encP]
theorem encP_one (x : Pr) : ∀ v ∈ encP x, v.oneCell' = true := by
  intro v hv
  simp only [encP, List.mem_map] at hv
  obtain ⟨c, _, rfl⟩ := hv
  rfl
theorem encP_get (x : Pr) {c : Nat} (h : c < 27) : (encP x)[c]! = .int .u8 (extP x c) := by
  rw [List.getElem!_eq_getElem?_getD]
  simp [encP, h]
theorem enc_rel {M : Mem} {ρ : Rho} {hp : List Blk} (x : Pr) : VRel M ρ hp (.agg (cellsI .u8 27 (extP x))) (.agg (encP x).toArray) := by
  refine .agg ?_ ?_ ?_
  · simp [encP]; rfl
  · intro j u hu
    exact encP_one x u (by simpa using Array.mem_of_getElem? hu)
  · intro j y u hy hu
    rw [cellsI_get] at hy
    split at hy
    · rename_i hj
      cases hy
      have : (encP x)[j]? = some u := by simpa using hu
      simp only [encP, List.getElem?_map, List.getElem?_range hj, Option.map_some, Option.some.injEq] at this
      subst this
      exact .int _ _
    · cases hy
theorem cmp_lays (w : World) (blk off size : Nat) : CmpLays Try.prog 117 #[] encP 27 cfP blk off size w := by
  intro m os dk hs x y
  obtain ⟨R, c, hR, hr⟩ := compare_tells (extP x) (extP y)
  obtain ⟨hfn, hc⟩ := hR _ _ [] _ _ c hr rfl
  generalize sortWorldK encP 27 w blk off m dk os = W
  refine (hc (mem W) (fun _ => none) (fun _ => none) [] W _ (real_start W) (by rfl) ?_).mono fun e w' ⟨u, he, M', ρ', hM, hE, hR', hv, hA⟩ => ?_
  · intro j a u hj hu
    match j with
    | 0 => simp at hj hu; subst hj hu; exact enc_rel x
    | 1 => simp at hj hu; subst hj hu; exact enc_rel y
    | j + 2 => simp at hj
  · refine ⟨by rw [he]; cases hv; rfl, world_eq hA.os hA.tape hA.output hA.drawn hA.size fun g hg => ?_⟩
    rw [hR'.mem g _ (hM g _ (Array.getElem?_eq_getElem hg)), Array.getElem?_eq_getElem hg]
theorem swoP : SWO (ltOf cfP) where
  irrefl x := by rw [show ltOf cfP x x = _ from ltOf_cfP x x]; exact lexF_irr _ 27 0
  trans x y z h1 h2 := by
    rw [show ltOf cfP x y = _ from ltOf_cfP x y] at h1
    rw [show ltOf cfP y z = _ from ltOf_cfP y z] at h2
    rw [show ltOf cfP x z = _ from ltOf_cfP x z]
    exact lexF_trans _ _ _ 27 0 h1 h2
  ntrans x y z h1 h2 := by
    rw [show ltOf cfP x y = _ from ltOf_cfP x y] at h1
    rw [show ltOf cfP y z = _ from ltOf_cfP y z] at h2
    rw [show ltOf cfP x z = _ from ltOf_cfP x z]
    exact lexF_ntrans _ _ _ 27 0 h1 h2
theorem totP (x y : Pr) (h1 : ltOf cfP x y = false) (h2 : ltOf cfP y x = false) : x = y := by
  rw [show ltOf cfP x y = _ from ltOf_cfP x y] at h1
  rw [show ltOf cfP y x = _ from ltOf_cfP y x] at h2
  exact ext_inj fun c hc => lexF_tot _ _ 27 0 h1 h2 c (by omega) (by omega)
def dP (n : Nat) (q : Nat → Nat → Int) : Array Pr := ((List.range n).map fun i => rowP (q i)).toArray
theorem dP_size (n : Nat) (q : Nat → Nat → Int) : (dP n q).size = n := by simp [dP]
theorem dP_get {n i : Nat} (q : Nat → Nat → Int) (h : i < n) : (dP n q)[i]! = rowP (q i) := by simp [dP, h]
theorem merge_dP (n : Nat) (q : Nat → Nat → Int) : ((dP n q).toList.mergeSort fun x y => !(ltOf cfP) y x).toArray = dP n (sortQ n q) := by
  unfold dP
  congr 1
  refine sorted_one q n _ ?_ ?_
  · exact List.mergeSort_perm _ _
  · have h := List.pairwise_mergeSort (le := fun x y => !(ltOf cfP) y x) (fun a b c h1 h2 => ?_) (fun a b => ?_) ((List.range n).map fun i => rowP (q i)).toArray.toList
    · refine h.imp fun {a b} h => ?_
      rw [← ltOf_cfP]
      simpa [ltOf] using h
    · simp only [Bool.not_eq_true'] at h1 h2 ⊢
      exact swoP.ntrans c b a h2 h1
    · cases h : ltOf cfP b a with
      | false => simp
      | true =>
        simp only [Bool.not_true, Bool.false_or, Bool.not_eq_true']
        rw [show ltOf cfP b a = _ from ltOf_cfP b a] at h
        rw [show ltOf cfP a b = _ from ltOf_cfP a b]
        exact lessP_asym h
theorem flat_get {n t : Nat} (q : Nat → Nat → Int) (h : t < n * 27) : (flatK encP 27 (dP n q))[t]! = .int .u8 (q (t / 27) (t % 27)) := by
  rw [get_flatK _ _ _ _ (by rw [dP_size]; exact h), dP_get q (by omega), encP_get _ (by omega), ext_row _ (by omega)]
theorem row_at (k : IntKind) {n i : Nat} {q : Nat → Nat → Int} {row : List AV} (h : ((List.range n).map fun i => cellsI k 27 (q i))[i]? = some row) : i < n ∧ row = cellsI k 27 (q i) := by
  rw [List.getElem?_map] at h
  by_cases hi : i < n
  · rw [List.getElem?_range hi] at h
    cases h
    exact ⟨hi, rfl⟩
  · rw [List.getElem?_eq_none (by simp; omega)] at h
    cases h
theorem sort_calls {M : Mem} {ρ : Rho} {β : Nat → Option Nat} {lo : List (Nat × List AV)} {w : World} {b : NB} {l : Plc} {c : Array Value} {cap : Nat} (hsz : b.sz = 27) (hk : b.k = .u8) (hn : b.n < 4611686018427387904) (hat : BlkAt M ρ [b.blk] w.heap l b.blk c) :
    Calls Try.prog 116 #[.slice (some ⟨l.blk, 0, none⟩) b.n cap, .func (.func 117) #[] #[]] w fun e w' =>
      e = .returned (.tuple #[]) ∧ ∃ m os, w' = sortWorldK encP 27 w l.blk 0 m (dP b.n (sortQ b.n b.q)) os := by
  have hC := AnyQ.slices_SortFunc_total (P := Try.prog) (ρ := Try.sortProd_ren) Try.sortProd 27 Try.isAgg63 Try.sizeOf63 encP encP_len encP_one cfP swoP 117 #[] l.blk 0 cap (dP b.n b.q) w
    (fun args w => run_callFunc (fn := Try.f117) rfl rfl rfl) (cmp_lays w l.blk 0 _) ?_ (lt_of_at hat.at_) (by rw [dP_size]; exact hn) totP
  · rw [merge_dP, dP_size] at hC
    exact hC
  · intro j hj
    rw [size_flatK, dP_size] at hj
    have hroom := hat.room
    have hsize := hat.size
    have hrl : b.blk.rows.length = b.n := by simp [NB.blk]
    have hbs : b.blk.sz = 27 := hsz
    rw [hrl, hbs] at hroom
    rw [Nat.zero_add]
    have hjc : j < c.size := by omega
    constructor
    · show (match w.heap[l.blk]? with | some (.cells c _ _) => _ | _ => _) = _
      rw [hat.at_, flat_get _ hj]
      show c[j]? = _
      have h1 := hat.rows (j / 27) (cellsI b.k 27 (b.q (j / 27))) (j % 27) (.int .u8 (b.q (j / 27) (j % 27))) c[j] ?_ ?_ ?_
      · rw [Array.getElem?_eq_getElem hjc, h1.int_inv]
        rfl
      · simp only [NB.blk, hsz]
        rw [List.getElem?_map, List.getElem?_range (by omega)]
        rfl
      · rw [cellsI_get, if_pos (by omega), hk]
      · rw [hbs, show j / 27 * 27 + j % 27 = j by omega, Array.getElem?_eq_getElem hjc]
    · show (match w.heap[l.blk]? with | some (.cells _ _ (lo, hi)) => _ | _ => _) = _
      rw [hat.at_]
      simp
section
variable (w : World) (blk m : Nat) (d : Array Pr) (os : Array Obj)
theorem sw_size : w.heap.size ≤ (sortWorldK encP 27 w blk 0 m d os).heap.size := size_sortWorldK_c encP 27 w blk 0 m d os
theorem sw_other {g : Nat} (h : g < w.heap.size) (hne : g ≠ blk) : (sortWorldK encP 27 w blk 0 m d os).heap[g]? = w.heap[g]? := by
  show ((w.heap.modify blk _) ++ os)[g]? = _
  rw [Array.getElem?_append_left (by simpa using h), Array.getElem?_modify, if_neg (fun e => hne e.symm)]
theorem sw_at {c : Array Value} {e : TypeId} {f : Nat × Nat} (h : w.heap[blk]? = some (.cells c e f)) : (sortWorldK encP 27 w blk 0 m d os).heap[blk]? = some (.cells (putCells id 0 (flatK encP 27 d) c) e f) := by
  show ((w.heap.modify blk _) ++ os)[blk]? = _
  rw [Array.getElem?_append_left (by simpa using (lt_of_at h)), Array.getElem?_modify, if_pos rfl, h]
  rfl
end
theorem sort_real {M : Mem} {ρ : Rho} {β : Nat → Option Nat} {lo : List (Nat × List AV)} {w : World} {b : NB} {l : Plc} {c : Array Value} (hsz : b.sz = 27) (hk : b.k = .u8) (hl : ρ 0 = some l) (hR : Real M ρ β [b.blk] lo w.heap) (hat : BlkAt M ρ [b.blk] w.heap l b.blk c) (m : Nat) (os : Array Obj) :
    Real M ρ β [(NB.mk b.e b.sz b.k b.n (sortQ b.n b.q)).blk] lo (sortWorldK encP 27 w l.blk 0 m (dP b.n (sortQ b.n b.q)) os).heap := by
  have hrl : b.blk.rows.length = b.n := by simp [NB.blk]
  have E : Ext ρ [b.blk] ρ [(NB.mk b.e b.sz b.k b.n (sortQ b.n b.q)).blk] := fun k b1 l1 hb1 hl1 => by
    cases k with
    | zero =>
      simp at hb1
      subst hb1
      exact ⟨_, l1, rfl, hl1, rfl, by simp [NB.blk], fun _ => rfl⟩
    | succ k => simp at hb1
  refine ⟨fun g o hg => ?_, fun k b1 hb1 => ?_, hR.inj, fun k l1 hl1 => by have := hR.dom k l1 hl1; simpa using this, fun d g cs hd hlk => ?_, fun d g hd => Nat.lt_of_lt_of_le (hR.vlt d g hd) (sw_size w l.blk m _ os), hR.vinj, hR.vdis⟩
  · rw [sw_other _ _ _ _ _ (lt_of_at (hR.mem g o hg)) (by rintro rfl; rw [hat.free] at hg; cases hg)]
    exact hR.mem g o hg
  · cases k with
    | succ k => simp at hb1
    | zero =>
      simp at hb1
      subst hb1
      have hroom := hat.room
      have hbs : b.blk.sz = 27 := hsz
      have hsize := hat.size
      rw [hrl, hbs] at hroom
      refine ⟨l, _, hl, ⟨hat.free, sw_at _ _ _ _ _ hat.at_, by simpa [putCells] using hat.size, hat.pos, by simpa [NB.blk, hsz] using hroom, fun row hrow => ?_, fun j u hu => ?_, fun i row j x u hi hj hu => ?_⟩⟩
      · simp only [NB.blk, List.mem_map] at hrow
        obtain ⟨i, _, rfl⟩ := hrow
        show (cellsI b.k b.sz _).length = b.sz
        exact cellsFrom_length _ _ _ _
      · simp only [putCells, Array.getElem?_mapIdx, Option.map_eq_some_iff] at hu
        obtain ⟨v, hv, rfl⟩ := hu
        split
        · rename_i hj
          rw [size_flatK, dP_size] at hj
          show (flatK encP 27 _)[j - 0]!.oneCell' = true
          rw [Nat.sub_zero, flat_get _ (by omega)]
          rfl
        · exact hat.one j v hv
      · have hi' : ((List.range b.n).map fun i => cellsI b.k 27 (sortQ b.n b.q i))[i]? = some row := by rw [← hsz]; exact hi
        obtain ⟨hin, rfl⟩ := row_at b.k hi'
        rw [cellsI_get] at hj
        split at hj
        · rename_i hj27
          cases hj
          have hbs' : (NB.mk b.e b.sz b.k b.n (sortQ b.n b.q)).blk.sz = 27 := hsz
          rw [hbs'] at hu
          simp only [putCells, Array.getElem?_mapIdx, Option.map_eq_some_iff] at hu
          obtain ⟨v, hv, rfl⟩ := hu
          rw [if_pos ⟨by omega, by rw [size_flatK, dP_size]; omega⟩]
          show VRel _ _ _ _ (flatK encP 27 _)[i * 27 + j - 0]!
          rw [Nat.sub_zero, flat_get _ (by omega), show (i * 27 + j) / 27 = i by omega, show (i * 27 + j) % 27 = j by omega, hk]
          exact .int _ _
        · cases hj
  · obtain ⟨cs', e', hva⟩ := hR.var d g cs hd hlk
    exact ⟨cs', e', { free := hva.free, at_ := by rw [sw_other _ _ _ _ _ (lt_of_at hva.at_) (fun e => hR.vdis d g 0 l hd hl e.symm)]; exact hva.at_, size := hva.size, one := hva.one, cells := hva.cells.mono (SubM.refl _) E }⟩
theorem sort_mok : MEntOk m_sort := by
  classical
  intro vs b v b' h
  unfold m_sort at h
  simp only at h
  split at h
  · rename_i n t g
    simp only [Option.some.injEq, Prod.mk.injEq, Bool.and_eq_true, decide_eq_true_eq] at h
    obtain ⟨⟨⟨⟨⟨⟨rfl, rfl⟩, hn⟩, hsz⟩, hk⟩, rfl⟩, rfl, rfl⟩ := h
    refine ⟨?_, rfl, rfl, rfl, rfl, Nat.le_refl _, rfl⟩
    refine ⟨fun g vs1 hp1 => if g = m_sort.1 ∧ vs1 = [.sl 0 0 b.n b.n, .fn 117 []] ∧ hp1 = [b.blk] then some (.tup [], [(NB.mk b.e b.sz b.k b.n (sortQ b.n b.q)).blk], 0) else none, 0, ?_, by simp⟩
    intro g vs1 hp1 v1 hp' c1 h1 hL
    dsimp only at h1
    split at h1
    · rename_i hg
      obtain ⟨rfl, rfl, rfl⟩ := hg
      cases h1
      refine ⟨⟨Try.f116, rfl, rfl, rfl⟩, fun M ρ β lo w xs hR hl hx => ?_⟩
      obtain ⟨l, c, hl0, hat⟩ := hR.blk 0 b.blk rfl
      have hrl : b.blk.rows.length = b.n := by simp [NB.blk]
      obtain ⟨xs⟩ := xs
      match xs, hl with
      | [x0, x1], _ =>
      have h0 := hx 0 _ x0 rfl rfl
      have h1 := hx 1 _ x1 rfl rfl
      cases h0 with
      | sl hb0 hl1 ht ho hh =>
        simp at hb0
        subst hb0
        rw [hl0] at hl1
        cases hl1
        obtain ⟨off, cap, rfl, hcap, hoff, _⟩ := hh hrl.symm
        have hoff0 : off = 0 := by simpa using hoff (.inr rfl)
        subst hoff0
        cases h1 with
        | fn hs _ =>
          have hcc := Array.eq_empty_of_size_eq_zero hs
          subst hcc
          refine (sort_calls (β := β) (lo := lo) hsz hk hn hat).mono fun e w' ⟨he, m, os, hw⟩ => ⟨_, he, M, ρ, SubM.refl _, ?_, ?_, .tup rfl (fun j x u hj => by simp at hj), ?_⟩
          · intro k b1 l1 hb1 hl1
            cases k with
            | zero =>
              simp at hb1
              subst hb1
              exact ⟨_, l1, rfl, hl1, rfl, by simp [NB.blk], fun _ => rfl⟩
            | succ k => simp at hb1
          · rw [hw]
            exact sort_real hsz hk hl0 hR hat m os
          · rw [hw]
            exact ⟨rfl, rfl, rfl, sw_size _ _ _ _ _, Nat.le_add_right _ _⟩
    · cases h1
  · cases h
end Go.Proofs.Ythbmlioknnhleaa.Fn
