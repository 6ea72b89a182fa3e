/- The abstract machine: append and clear. -/
import Derived.Test.YtjdciikfbinchaaAbs9
namespace Go.Proofs.Ytjdciikfbinchaa.Abs
open Go

/-- how the built-in append runs where 'news', m elements, are appended -/
structure App (P : Program) (w : World) (t tx ty e size : Nat) (z : Array Value) (u : Value) (m : Nat) (news : List Value) : Prop where
  nothing : m = 0 → ∀ (base : Option Addr) (c : Nat), (Builtin.append_ #[t, tx] ty #[.slice base 0 c, u]).run P w = .ok (.slice base 0 c) w
  room : ∀ (b off sLen sCap : Nat), sLen + m ≤ sCap → (∀ j, j < news.length → (w.cell? ⟨b, off + sLen * size + j, none⟩).isSome = true) → (∀ j, j < news.length → w.frozen? ⟨b, off + sLen * size + j, none⟩ = false) →
    (Builtin.append_ #[t, tx] ty #[.slice (some ⟨b, off, none⟩) sLen sCap, u]).run P w = .ok (.slice (some ⟨b, off, none⟩) (sLen + m) sCap) (w.setCells b (off + sLen * size) news)
  grow : ∀ (base : Option Addr) (sLen sCap : Nat) (olds : List Value), (Builtin.firstCells size sLen (.slice base sLen sCap)).run P w.drew = .ok olds.toArray w.drew → sCap < sLen + m → sLen + m ≤ most →
    (Builtin.append_ #[t, tx] ty #[.slice base sLen sCap, u]).run P w = .ok (.slice (some ⟨w.heap.size, 0, none⟩) (sLen + m) (grownCap w (sLen + m) sCap e))
      (w.drew.alloc (.cells ((olds ++ news).toArray ++ Builtin.zeroCells z (grownCap w (sLen + m) sCap e - (sLen + m))) e))

section
variable {P : Program} {M : Mem} {ρ : Rho} {β : Nat → Option Nat} {hp : List Blk} {lo : List (Nat × List AV)} {w : World}

theorem fits {need bytes : Nat} (h : need ≤ most) (hb : bytes ≤ 1024) : need * bytes ≤ 140737488355328 := by
  unfold most at h
  have := Nat.mul_le_mul h hb
  omega

theorem App.ofSrc {t tx ty e : Nat} {i : TypeInfo} {z : Value} (ht : P.underlying t = some (.slice e)) (hi : P.info? e = some i) (hz : i.zero = some z) (hb : i.bytes ≤ 1024) {u : Value} {m : Nat} {news : List Value} (hs : Src P i.size tx u m news w) :
    App P w t tx ty e i.size z.cells u m news :=
  ⟨fun hm base c => by
    subst hm
    obtain rfl : news = [] := List.eq_nil_of_length_eq_zero (by simpa using hs.newsLen)
    exact run_append_nothing w t tx ty e i ht hi base 0 c (Nat.zero_le _) u hs,
   fun b off sLen sCap h1 h2 h3 => run_append_room_src w t tx ty e i ht hi b off sLen sCap u m news hs h1 h2 h3,
   fun base sLen sCap olds h1 h2 h3 => run_append_grow_src w t tx ty e i z ht hi hz base sLen sCap olds h1 u m news hs h2 (by unfold most at h3; omega) (growslice_fits h2 (fits h3 hb))⟩

theorem App.ofZeros {t tx ty e : Nat} {k : IntKind} {i : TypeInfo} {z : Value} (ht : P.underlying t = some (.slice e)) (hk : P.underlying tx = some (.int k)) (hi : P.info? e = some i) (hz : i.zero = some z) (hb : i.bytes ≤ 1024)
    (hpos : 0 < i.size) (hzs : z.cells.size = i.size) (hone : One z.cells) {n : Int} (h0 : 0 ≤ n) (hn : n ≤ (most : Nat)) :
    App P w t tx ty e i.size z.cells (.int .i64 n) n.toNat (Builtin.zeroCells z.cells n.toNat).toList := by
  have hw : IntKind.i64.wrap n = n := by unfold most at hn; rw [IntKind.wrap_i64]; omega
  have n1 : ¬ n < 0 := by omega
  have n2 : ¬ (281474976710656 < n * (i.bytes : Int)) := by
    unfold most at hn
    have := Int.mul_le_mul hn (show (i.bytes : Int) ≤ 1024 by omega) (by omega) (by omega)
    omega
  have hm : n.toNat * i.size = 0 ↔ n.toNat = 0 := by
    constructor
    · intro h
      rcases Nat.mul_eq_zero.1 h with h | h
      · exact h
      · omega
    · intro h; rw [h]; simp
  have hones : ∀ v ∈ (Builtin.zeroCells z.cells n.toNat).toList, v.oneCell' = true := by
    have hzm : Builtin.zeroCells z.cells n.toNat = madeCells z.cells (n.toNat * i.size) := by unfold Builtin.zeroCells madeCells; rw [hzs]
    intro v hv
    obtain ⟨j, hj⟩ := List.mem_iff_getElem?.1 hv
    rw [hzm] at hj
    exact One.made hone _ (fun _ => by omega) j v (by simpa using hj)
  have hz0 : n.toNat = 0 → (Builtin.zeroCells z.cells n.toNat) = #[] := fun h => by rw [h]; unfold Builtin.zeroCells; simp
  refine ⟨fun h base c => ?_, fun b off sLen sCap h1 h2 h3 => ?_, fun base sLen sCap olds h1 h2 h3 => ?_⟩
  · have hn0 : n = 0 := by omega
    subst hn0
    cases base <;> simp [Builtin.append_, run_underlying ht, run_underlying hk, Go.sizeOf, typeInfo, hi, asInt, asIntOf, hw, storeCells]
  · have hst := run_storeCells_cells (P := P) b (off + sLen * i.size) (Builtin.zeroCells z.cells n.toNat).toList 0 w (by simpa using h2) (by simpa using h3) hones
    simp only [Nat.add_zero] at hst
    by_cases hq : n.toNat = 0
    · have hn0 : n = 0 := by omega
      subst hn0
      have h1' : sLen ≤ sCap := by omega
      simp [Builtin.append_, run_underlying ht, run_underlying hk, Go.sizeOf, typeInfo, hi, asInt, asIntOf, hw, h1', storeCells, World.setCells, Builtin.zeroCells]
    · have hq' : ¬ (n.toNat * i.size = 0) := fun h => hq (hm.1 h)
      simp [Builtin.append_, run_underlying ht, run_underlying hk, Go.sizeOf, typeInfo, hi, asInt, asIntOf, hw, n1, n2, zeroValue, hz, Addr.add_lit, h1, hq', hst]
  · have g1 : ¬ (sLen + n.toNat ≤ sCap) := by omega
    have g2' : ¬ (9223372036854775807 < ((sLen : Int) + max n 0)) := by unfold most at h3; omega
    have g3 : ¬ (281474976710656 < Builtin.nextslicecap (sLen + n.toNat) sCap * i.bytes) := by
      have := growslice_fits h2 (fits h3 hb)
      omega
    by_cases hq : n.toNat = 0
    · have hn0 : n = 0 := by omega
      subst hn0
      have g1' : ¬ (sLen ≤ sCap) := by omega
      have g3' : ¬ (281474976710656 < Builtin.nextslicecap sLen sCap * i.bytes) := by simpa using g3
      have g2'' : ¬ (9223372036854775807 < (sLen : Int)) := by unfold most at h3; omega
      simp [Builtin.append_, run_underlying ht, run_underlying hk, Go.sizeOf, typeInfo, hi, asInt, asIntOf, hw, g1', g2'', g3', zeroValue, hz, Question.forced, h1, newRow, grownCap, Builtin.zeroCells]
    · have hq' : ¬ (n.toNat * i.size = 0) := fun h => hq (hm.1 h)
      simp [Builtin.append_, run_underlying ht, run_underlying hk, Go.sizeOf, typeInfo, hi, asInt, asIntOf, hw, n1, n2, zeroValue, hz, g1, g2', g3, hq', Question.forced, h1, newRow, grownCap]
      congr 2
      apply Array.ext'
      simp [List.append_assoc]

/-- behind an append -/
theorem append_rel {t tx ty e n0 : Nat} {te : TI} {s : AV} {v u : Value} {new : List (List AV)} {news : List Value} {eff : Eff} (dst : Option Nat) (he : elemT (tiOf P) t = some (e, te)) (hpos : 0 < te.size) (hR : Real M ρ β hp lo w.heap)
    (h : appendA hp n0 e te s new = some eff) (hs : ERel M ρ β hp s v) (hA : ∀ (i : TypeInfo) (z : Value), P.info? e = some i → i.zero = some z → App P w t tx ty e i.size z.cells u new.length news)
    (hN : News M ρ hp te.size new news) : ∃ v' w', (Builtin.append_ #[t, tx] ty #[v, u]).run P w = .ok v' w' ∧ PostE M ρ β hp lo w dst eff v' w' := by
  obtain ⟨hu, hte⟩ := elemT_some he
  obtain ⟨ie, ze, de, hie, hze, hzec, hzel, _, hse, hbe, _, _⟩ := tiOf_some hte
  obtain ⟨z1, z2, z3⟩ := zero_rel (M := M) (ρ := ρ) (hp := hp) hzec hzel
  have A := hA ie ze hie hze
  rw [← hse] at A
  have hzz : ze.cells.size = te.size := by omega
  have hzc1 : ∀ m, One (Builtin.zeroCells ze.cells m) := fun m => by
    have hzm : Builtin.zeroCells ze.cells m = madeCells ze.cells (m * te.size) := by unfold Builtin.zeroCells madeCells; rw [hzz]
    rw [hzm]
    exact One.made z2 _ (fun _ => by omega)
  -- a new block of rows 'olds ++ new'
  have newBlock : ∀ (olds : List Value) (all : List (List AV)) (k : Nat), News M ρ hp te.size all (olds ++ news) → all.length ≤ k →
      let c := (olds ++ news).toArray ++ Builtin.zeroCells ze.cells (k - all.length)
      c.size = k * te.size ∧ One c ∧ RowsIn M ρ hp te.size all c := by
    intro olds all k hN' hk
    have hl := hN'.len
    refine ⟨?_, fun j x hj => ?_, fun i row j x y hi hx hy => ?_⟩
    · rw [Array.size_append, List.size_toArray, hl, size_zeroCells, hzz, ← Nat.add_mul]
      congr 1
      omega
    · rw [Array.getElem?_append] at hj
      split at hj
      · exact hN'.one x (List.mem_of_getElem? (by simpa using hj))
      · exact hzc1 _ _ _ hj
    · have hj : j < te.size := by have := (List.getElem?_eq_some_iff.1 hx).1; rw [hN'.rows row (List.mem_of_getElem? hi)] at this; exact this
      have hil : i < all.length := (List.getElem?_eq_some_iff.1 hi).1
      have hlt : i * te.size + j < (olds ++ news).length := by
        rw [hl]
        have := Nat.mul_le_mul_right te.size (show i + 1 ≤ all.length by omega)
        rw [Nat.succ_mul] at this
        omega
      rw [Array.getElem?_append_left (by simpa using hlt)] at hy
      exact hN'.rel i row j x y hi hx (by simpa using hy)
  -- a slice without memory
  have bare : ∀ (base : Option Addr), v = .slice base 0 0 → (s = .nilsl ∨ s = .esl) → ∃ v' w', (Builtin.append_ #[t, tx] ty #[v, u]).run P w = .ok v' w' ∧ PostE M ρ β hp lo w dst eff v' w' := by
    intro base hv hs'
    subst hv
    have hcase : (new = [] ∧ eff = { v := s }) ∨ (new ≠ [] ∧ new.length ≤ most ∧ eff = { v := .sl hp.length 0 new.length new.length, hp := some (hp ++ [⟨e, te.size, new⟩]) }) := by
      unfold appendA at h
      rcases hs' with rfl | rfl <;>
      · cases new with
        | nil => simp at h; exact .inl ⟨rfl, h.symm⟩
        | cons r l =>
          simp only at h
          split at h
          · rename_i hm; cases h; exact .inr ⟨by simp, hm, rfl⟩
          · cases h
    rcases hcase with ⟨rfl, rfl⟩ | ⟨hne, hm, rfl⟩
    · exact ⟨_, _, A.nothing rfl base 0, M, ρ, β, SubM.refl _, Ext.refl _ _, hR, hs, Adv.refl _, .inl rfl⟩
    · have hlen : 0 < new.length := List.length_pos_iff.2 hne
      have hrun := A.grow base 0 0 [] (by cases base <;> simp [Builtin.firstCells, loadCells, loadCellsFrom]) (by omega) (by omega)
      simp only [Nat.zero_add, List.nil_append] at hrun
      have hge := grownCap_ge w new.length 0 e
      obtain ⟨c1, c2, c3⟩ := newBlock [] new (grownCap w new.length 0 e) (by simpa using hN) hge
      simp only [List.nil_append] at c1 c2 c3
      have hR' := hR.snoc ⟨e, te.size, new⟩ _ hpos (by rw [c1]; exact Nat.mul_le_mul_right _ hge) hN.rows c2 c3
      refine ⟨_, _, hrun, M, _, β, SubM.refl _, Ext.snoc ⟨e, te.size, new⟩ ⟨w.heap.size, _⟩, hR', .inr ?_, ⟨rfl, rfl, rfl, by simp⟩, .inl rfl⟩
      refine .sl (b := ⟨e, te.size, new⟩) (l := ⟨w.heap.size, _⟩) (by simp) (upd_same _ _ _) (Nat.le_refl _) rfl (fun _ => ⟨0, _, rfl, hge, fun _ => by simp, fun _ => ?_⟩)
      exact c1.symm
  unfold appendA at h
  split at h
  · cases hs.v (fun _ _ e => by cases e)
    exact bare none rfl (.inl rfl)
  · cases hs.v (fun _ _ e => by cases e) with
    | esl a => exact bare a rfl (.inr rfl)
  · rename_i k n tt
    split at h
    · rename_i b hb
      obtain ⟨hb1, hb2⟩ := fresh_some hb
      split at h
      · rename_i hc
        obtain ⟨hbe', hbs, hmost⟩ := hc
        cases hs.v (fun _ _ e => by cases e) with
        | @sl _ _ _ _ _ b' l hb' hl hle _ hsl =>
          rw [hb1] at hb'
          cases hb'
          obtain ⟨off, cap, rfl, hnc, hoff, hcap⟩ := hsl hb2
          have hoff := hoff (.inr rfl)
          rw [Nat.zero_mul] at hoff
          subst hoff
          have hcap := hcap rfl
          obtain ⟨l', c, hl', hat⟩ := hR.blk k b hb1
          rw [hl] at hl'
          cases hl'
          have hk : k < hp.length := (List.getElem?_eq_some_iff.1 hb1).1
          have hcs := hat.size
          have hrm := hat.room
          rw [hbs] at hcap hrm
          have hnl := hN.len
          have hncs : n * te.size ≤ c.size := by rw [hcs, ← hcap]; exact Nat.mul_le_mul_right _ hnc
          -- in place: rows' from n on
          have inPlace : ∀ (rows' : List (List AV)) (tt' : Nat), n + new.length ≤ cap → b.rows.length ≤ rows'.length → rows'.length * te.size ≤ l.n → tt' = rows'.length →
              (∀ row ∈ rows', row.length = te.size) → (∀ (i : Nat) row, rows'[i]? = some row → (n ≤ i ∧ i < n + new.length ∧ new[i - n]? = some row) ∨ ((i < n ∨ n + new.length ≤ i) ∧ b.rows[i]? = some row)) →
              ∃ v' w', (Builtin.append_ #[t, tx] ty #[.slice (some ⟨l.blk, 0, none⟩) n cap, u]).run P w = .ok v' w' ∧
                PostE M ρ β hp lo w dst { v := .sl k 0 (n + new.length) tt', hp := some (hp.set k { b with rows := rows' }), cl := decide (n0 ≤ k) } v' w' := by
            intro rows' tt' hfit hrl hroom htt hlens hrows
            have hfits : n * te.size + news.length ≤ c.size := by
              rw [hnl, ← Nat.add_mul, hcs, ← hcap]
              exact Nat.mul_le_mul_right _ hfit
            have hrun := A.room l.blk 0 n cap hfit (fun j hj => by rw [cell_at hat.at_]; simp; omega) (fun j hj => by rw [frozen_at hat.at_])
            rw [Nat.zero_add] at hrun
            obtain ⟨c', hc1, hc2, hc3⟩ := setCells_at l.blk news (n * te.size) w c b.e hat.at_ hfits
            obtain ⟨_, _, _, f4, f5⟩ := setCells_frame l.blk news (n * te.size) w
            have hE : Ext ρ hp (upd ρ k l) (hp.set k { b with rows := rows' }) := Ext.set (b' := { b with rows := rows' }) hb1 hl rfl hrl (fun _ => rfl)
            have hR' := hR.setBlk (b' := { b with rows := rows' }) (l' := l) hb1 hl rfl hrl (fun _ => rfl) (by rw [f4]; exact Nat.le_refl _) (fun i _ hi => f5 i hi) (.inl rfl) hc1 (by rw [hc2, hcs]) (by show rows'.length * b.sz ≤ l.n; rw [hbs]; exact hroom) (by show ∀ row ∈ rows', row.length = b.sz; rw [hbs]; exact hlens)
              (fun j y hj => by
                rw [hc3] at hj
                split at hj
                · exact hN.one y (List.mem_of_getElem? hj)
                · exact hat.one _ _ hj)
              (fun i row j x y hi hx hy => by
                show VRel M _ _ x y
                have hi' : rows'[i]? = some row := hi
                have hy' : c'[i * te.size + j]? = some y := by rw [← hbs]; exact hy
                rw [hc3, hnl] at hy'
                have hj : j < te.size := by have := (List.getElem?_eq_some_iff.1 hx).1; rw [hlens row (List.mem_of_getElem? hi')] at this; exact this
                have hexp : (n + new.length) * te.size = n * te.size + new.length * te.size := Nat.add_mul _ _ _
                rcases hrows i row hi' with ⟨h1, h2, h3⟩ | ⟨h1, h3⟩
                · have a1 := Nat.mul_le_mul_right te.size h1
                  have a2 := Nat.mul_le_mul_right te.size (show i + 1 ≤ n + new.length by omega)
                  rw [Nat.succ_mul] at a2
                  rw [if_pos (by omega)] at hy'
                  have : i * te.size + j - n * te.size = (i - n) * te.size + j := by rw [Nat.sub_mul]; omega
                  rw [this] at hy'
                  exact (hN.rel (i - n) row j x y h3 hx hy').mono (SubM.refl _) hE
                · have hnot : ¬ (n * te.size ≤ i * te.size + j ∧ i * te.size + j < n * te.size + new.length * te.size) := by
                    rintro ⟨a1, a2⟩
                    rcases h1 with h1 | h1
                    · have := Nat.mul_le_mul_right te.size (show i + 1 ≤ n by omega)
                      rw [Nat.succ_mul] at this
                      omega
                    · have := Nat.mul_le_mul_right te.size h1
                      omega
                  rw [if_neg hnot] at hy'
                  exact (hat.rows i row j x y h3 hx (by rw [hbs]; exact hy')).mono (SubM.refl _) hE)
            refine ⟨_, _, hrun, M, upd ρ k l, β, SubM.refl _, hE, hR', .inr ?_, Adv.setCells _ _ _ _, .inl rfl⟩
            exact .sl (b := { b with rows := rows' }) (l := l) (by simp [hk]) (upd_same _ _ _) (by rw [htt]; exact Nat.le_refl _) rfl (fun _ => ⟨0, cap, rfl, hfit, fun _ => by simp, fun _ => by show cap * b.sz = l.n; rw [hbs]; exact hcap⟩)
          split at h
          · -- at the end of its rows
            rename_i hnt
            cases h
            have hnr : n = b.rows.length := by omega
            by_cases hfit : n + new.length ≤ cap
            · refine inPlace (b.rows ++ new) _ hfit (by simp) (by rw [List.length_append, ← hnr, ← hcap]; exact Nat.mul_le_mul_right _ hfit) (by rw [List.length_append]; omega) ?_ ?_
              · intro row hrow
                rcases List.mem_append.1 hrow with h1 | h1
                · rw [← hbs]; exact hat.len row h1
                · exact hN.rows row h1
              · intro i row hi
                by_cases hlt : i < b.rows.length
                · rw [List.getElem?_append_left hlt] at hi
                  exact .inr ⟨.inl (by omega), hi⟩
                · rw [List.getElem?_append_right (by omega)] at hi
                  have := (List.getElem?_eq_some_iff.1 hi).1
                  exact .inl ⟨by omega, by omega, by rw [hnr]; exact hi⟩
            · -- a new row
              have holds : (c.extract 0 (n * te.size)).toList.length = n * te.size := by simp; rw [hcs, ← hcap]; exact Nat.min_eq_left (Nat.mul_le_mul_right _ hnc)
              have hfirst : (Builtin.firstCells te.size n (.slice (some ⟨l.blk, 0, none⟩) n cap)).run P w.drew = .ok (c.extract 0 (n * te.size)).toList.toArray w.drew :=
                run_firstCells_some w.drew te.size n ⟨l.blk, 0, none⟩ n cap _ holds (fun j x hj => by
                  rw [Addr.add_mid, Nat.zero_add]
                  show w.cell? _ = _
                  rw [cell_at hat.at_]
                  rw [Array.getElem?_toList, Array.getElem?_extract] at hj
                  split at hj
                  · simpa using hj
                  · cases hj)
              have hrun := A.grow (some ⟨l.blk, 0, none⟩) n cap _ hfirst (by omega) hmost
              have hge := grownCap_ge w (n + new.length) cap e
              have hNall : News M ρ hp te.size (b.rows ++ new) ((c.extract 0 (n * te.size)).toList ++ news) := by
                refine ⟨by rw [List.length_append, holds, hnl, List.length_append, ← hnr, Nat.add_mul], fun row hrow => ?_, fun x hx => ?_, fun i row j x y hi hx hy => ?_⟩
                · rcases List.mem_append.1 hrow with h1 | h1
                  · rw [← hbs]; exact hat.len row h1
                  · exact hN.rows row h1
                · rcases List.mem_append.1 hx with h1 | h1
                  · obtain ⟨j, hj⟩ := List.mem_iff_getElem?.1 h1
                    rw [Array.getElem?_toList, Array.getElem?_extract] at hj
                    split at hj
                    · exact hat.one _ _ hj
                    · cases hj
                  · exact hN.one x h1
                · by_cases hlt : i < b.rows.length
                  · rw [List.getElem?_append_left hlt] at hi
                    have hj : j < te.size := by have := (List.getElem?_eq_some_iff.1 hx).1; rw [hat.len row (List.mem_of_getElem? hi), hbs] at this; exact this
                    have a2 := Nat.mul_le_mul_right te.size (show i + 1 ≤ n by omega)
                    rw [Nat.succ_mul] at a2
                    rw [List.getElem?_append_left (by omega), Array.getElem?_toList, Array.getElem?_extract, if_pos (by omega), Nat.zero_add] at hy
                    exact hat.rows i row j x y hi hx (by rw [hbs]; exact hy)
                  · rw [List.getElem?_append_right (by omega)] at hi
                    have a1 := Nat.mul_le_mul_right te.size (show n ≤ i by omega)
                    rw [List.getElem?_append_right (by omega), holds] at hy
                    have : i * te.size + j - n * te.size = (i - n) * te.size + j := by rw [Nat.sub_mul]; omega
                    rw [this, hnr] at hy
                    exact hN.rel (i - b.rows.length) row j x y hi hx hy
              obtain ⟨c1, c2, c3⟩ := newBlock _ (b.rows ++ new) (grownCap w (n + new.length) cap e) hNall (by rw [List.length_append, ← hnr]; exact hge)
              have hlall : (b.rows ++ new).length = n + new.length := by rw [List.length_append, hnr]
              rw [hlall] at c1 c2 c3
              have hlnew : 0 < new.length := by omega
              have hE : Ext ρ hp (upd ρ k ⟨w.heap.size, _⟩) (hp.set k { b with rows := b.rows ++ new }) := Ext.set (b' := { b with rows := b.rows ++ new }) (l' := ⟨w.heap.size, grownCap w (n + new.length) cap e * te.size⟩) hb1 hl rfl (by simp) (fun h => by simp only [List.length_append] at h; omega)
              have hpush : ∀ g, g < w.heap.size → (w.heap.push (.cells ((c.extract 0 (n * te.size)).toList ++ news |>.toArray |> (· ++ Builtin.zeroCells ze.cells (grownCap w (n + new.length) cap e - (n + new.length)))) e (0, 0)))[g]? = w.heap[g]? := fun g hg => by rw [Array.getElem?_push, if_neg (by omega)]
              have hrowsIn : RowsIn M (upd ρ k ⟨w.heap.size, grownCap w (n + new.length) cap e * te.size⟩) (hp.set k { b with rows := b.rows ++ new }) b.sz (b.rows ++ new) (((c.extract 0 (n * te.size)).toList ++ news).toArray ++ Builtin.zeroCells ze.cells (grownCap w (n + new.length) cap e - (n + new.length))) := by
                intro i row j x y h1 h2 h3
                have hh : i * b.sz + j = i * te.size + j := by rw [hbs]
                rw [hh] at h3
                exact (c3.mono (SubM.refl _) hE) i row j x y h1 h2 h3
              have hR' := hR.setBlk (H' := (w.drew.alloc (.cells (((c.extract 0 (n * te.size)).toList ++ news).toArray ++ Builtin.zeroCells ze.cells (grownCap w (n + new.length) cap e - (n + new.length))) e)).heap)
                (b' := { b with rows := b.rows ++ new }) (l' := ⟨w.heap.size, grownCap w (n + new.length) cap e * te.size⟩) hb1 hl rfl (by simp) (fun h => by simp only [List.length_append] at h; omega)
                (by simp) (fun g hg _ => hpush g hg) (.inr (Nat.le_refl _)) (c' := ((c.extract 0 (n * te.size)).toList ++ news).toArray ++ Builtin.zeroCells ze.cells (grownCap w (n + new.length) cap e - (n + new.length)))
                (by simp only [World.alloc, World.drew]; rw [Array.getElem?_push, if_pos rfl]; exact congrArg some (by rw [hbe'])) c1
                (by show (b.rows ++ new).length * b.sz ≤ _; rw [hlall, hbs]; exact Nat.mul_le_mul_right _ hge) (by show ∀ row ∈ b.rows ++ new, row.length = b.sz; rw [hbs]; exact hNall.rows) c2
                hrowsIn
              refine ⟨_, _, hrun, M, _, β, SubM.refl _, hE, hR', .inr ?_, ⟨rfl, rfl, rfl, by simp⟩, .inl rfl⟩
              exact .sl (b := { b with rows := b.rows ++ new }) (l := ⟨w.heap.size, grownCap w (n + new.length) cap e * te.size⟩) (by simp [hk]) (upd_same _ _ _) (by show tt + new.length ≤ (b.rows ++ new).length; omega) rfl
                (fun _ => ⟨0, _, rfl, hge, fun _ => by simp, fun _ => by show _ * b.sz = _; rw [hbs]⟩)
          · -- over rows that are there
            split at h
            · rename_i hle'
              cases h
              have htc : n + new.length ≤ cap := by
                have h1 : tt * te.size ≤ cap * te.size := by rw [hcap, hb2]; exact hrm
                have := Nat.le_of_mul_le_mul_right h1 hpos
                omega
              have hlen : (b.rows.take n ++ (new ++ b.rows.drop (n + new.length))).length = b.rows.length := by simp; omega
              refine inPlace (b.rows.take n ++ (new ++ b.rows.drop (n + new.length))) tt htc (by omega) (by rw [hlen]; exact hrm) (by omega) ?_ ?_
              · intro row hrow
                rcases List.mem_append.1 hrow with h1 | h1
                · rw [← hbs]; exact hat.len row (List.mem_of_mem_take h1)
                · rcases List.mem_append.1 h1 with h2 | h2
                  · exact hN.rows row h2
                  · rw [← hbs]; exact hat.len row (List.mem_of_mem_drop h2)
              · intro i row hi
                have ht : (b.rows.take n).length = n := by simp; omega
                by_cases h1 : i < n
                · rw [List.getElem?_append_left (by omega), List.getElem?_take, if_pos h1] at hi
                  exact .inr ⟨.inl h1, hi⟩
                · rw [List.getElem?_append_right (by omega), ht] at hi
                  by_cases h2 : i < n + new.length
                  · rw [List.getElem?_append_left (by omega)] at hi
                    exact .inl ⟨by omega, h2, hi⟩
                  · rw [List.getElem?_append_right (by omega), List.getElem?_drop] at hi
                    exact .inr ⟨.inr (by omega), by rw [show n + new.length + (i - n - new.length) = i by omega] at hi; exact hi⟩
            · cases h
      · cases h
    · cases h
  · cases h

/-- behind a clear -/
theorem clear_rel {t e n0 : Nat} {te : TI} {x : AV} {v : Value} {eff : Eff} (dst : Option Nat) (ty : Nat) (he : elemT (tiOf P) t = some (e, te)) (hR : Real M ρ β hp lo w.heap) (h : clearA hp n0 te.zero x = some eff) (hx : ERel M ρ β hp x v) :
    ∃ w', (Builtin.clear_ #[t] ty #[v]).run P w = .ok (.tuple #[]) w' ∧ PostE M ρ β hp lo w dst eff (.tuple #[]) w' := by
  obtain ⟨hu, hte⟩ := elemT_some he
  obtain ⟨ie, ze, de, hie, hze, hzec, hzel, _, hse, hbe, _, _⟩ := tiOf_some hte
  obtain ⟨z1, z2, z3⟩ := zero_rel (M := M) (ρ := ρ) (hp := hp) hzec hzel
  have tupNil : ∀ {hp : List Blk} {ρ : Rho}, ERel M ρ β hp (.tup []) (.tuple #[]) := .inr (.tup rfl (fun j x u hj _ => by simp at hj))
  unfold clearA at h
  split at h
  · cases h
    cases hx.v (fun _ _ e => by cases e)
    exact ⟨w, by simp [Builtin.clear_, run_underlying hu], M, ρ, β, SubM.refl _, Ext.refl _ _, hR, tupNil, Adv.refl _, .inl rfl⟩
  · cases h
    cases hx.v (fun _ _ e => by cases e) with
    | esl a => exact ⟨w, by cases a <;> simp [Builtin.clear_, run_underlying hu], M, ρ, β, SubM.refl _, Ext.refl _ _, hR, tupNil, Adv.refl _, .inl rfl⟩
  · rename_i k r n tt
    simp only [Option.bind_eq_some_iff] at h
    obtain ⟨b, hb, h⟩ := h
    obtain ⟨hb1, hb2⟩ := fresh_some hb
    split at h
    · rename_i hc
      obtain ⟨hrn, hzs⟩ := hc
      cases h
      cases hx.v (fun _ _ e => by cases e) with
      | @sl _ _ _ _ _ b' l hb' hl hle _ hsl =>
        rw [hb1] at hb'
        cases hb'
        obtain ⟨off, cap, rfl, hnc, hoff, _⟩ := hsl hb2
        obtain ⟨l', c, hl', hat⟩ := hR.blk k b hb1
        rw [hl] at hl'
        cases hl'
        have hk : k < hp.length := (List.getElem?_eq_some_iff.1 hb1).1
        have hcs := hat.size
        have hrm := hat.room
        have hpos := hat.pos
        have hzb : ze.cells.size = b.sz := by omega
        have hN := News.zeros (M := M) (ρ := ρ) (hp := hp) (n := n) hzs hzb z2 z3 hpos
        have hexp : (r + n) * b.sz = r * b.sz + n * b.sz := Nat.add_mul _ _ _
        have hroom : (r + n) * b.sz ≤ b.rows.length * b.sz := Nat.mul_le_mul_right _ hrn
        have hlen : (b.rows.take r ++ (List.replicate n te.zero ++ b.rows.drop (r + n))).length = b.rows.length := by simp; omega
        have hE : Ext ρ hp (upd ρ k l) (hp.set k { b with rows := b.rows.take r ++ (List.replicate n te.zero ++ b.rows.drop (r + n)) }) := Ext.set (b' := { b with rows := _ }) hb1 hl rfl (by rw [hlen]; exact Nat.le_refl _) (fun _ => rfl)
        have hzl : (Builtin.zeroCells ze.cells n).toList.length = n * b.sz := by simp [size_zeroCells, hzb]
        have hfits : r * b.sz + (Builtin.zeroCells ze.cells n).toList.length ≤ c.size := by rw [hzl, hcs]; omega
        obtain ⟨c', hc1, hc2, hc3⟩ := setCells_at l.blk (Builtin.zeroCells ze.cells n).toList (r * b.sz) w c b.e hat.at_ hfits
        obtain ⟨_, _, _, f4, f5⟩ := setCells_frame l.blk (Builtin.zeroCells ze.cells n).toList (r * b.sz) w
        have hR' := hR.setBlk (b' := { b with rows := b.rows.take r ++ (List.replicate n te.zero ++ b.rows.drop (r + n)) }) (l' := l) hb1 hl rfl (by rw [hlen]; exact Nat.le_refl _) (fun _ => rfl) (by rw [f4]; exact Nat.le_refl _) (fun i _ hi => f5 i hi) (.inl rfl) hc1 (by rw [hc2, hcs]) (by show _ * b.sz ≤ l.n; rw [hlen]; exact hrm)
          (fun row hrow => by
            rcases List.mem_append.1 hrow with h1 | h1
            · exact hat.len row (List.mem_of_mem_take h1)
            · rcases List.mem_append.1 h1 with h2 | h2
              · exact hN.rows row h2
              · exact hat.len row (List.mem_of_mem_drop h2))
          (fun j y hj => by
            rw [hc3] at hj
            split at hj
            · exact hN.one y (List.mem_of_getElem? hj)
            · exact hat.one _ _ hj)
          (fun i row j x y hi hx hy => by
            show VRel M _ _ x y
            have hi' : (b.rows.take r ++ (List.replicate n te.zero ++ b.rows.drop (r + n)))[i]? = some row := hi
            have hy' : c'[i * b.sz + j]? = some y := hy
            rw [hc3, hzl] at hy'
            have ht : (b.rows.take r).length = r := by simp; omega
            by_cases h1 : i < r
            · rw [List.getElem?_append_left (by omega), List.getElem?_take, if_pos h1] at hi'
              have hj : j < b.sz := by have := (List.getElem?_eq_some_iff.1 hx).1; rw [hat.len row (List.mem_of_getElem? hi')] at this; exact this
              have a1 := Nat.mul_le_mul_right b.sz (show i + 1 ≤ r by omega)
              rw [Nat.succ_mul] at a1
              rw [if_neg (by omega)] at hy'
              exact (hat.rows i row j x y hi' hx hy').mono (SubM.refl _) hE
            · rw [List.getElem?_append_right (by omega), ht] at hi'
              by_cases h2 : i < r + n
              · rw [List.getElem?_append_left (by simp; omega)] at hi'
                have hj : j < b.sz := by have := (List.getElem?_eq_some_iff.1 hx).1; rw [hN.rows row (List.mem_of_getElem? hi')] at this; exact this
                have a1 := Nat.mul_le_mul_right b.sz (show r ≤ i by omega)
                have a2 := Nat.mul_le_mul_right b.sz (show i + 1 ≤ r + n by omega)
                rw [Nat.succ_mul] at a2
                rw [if_pos (by omega)] at hy'
                have : i * b.sz + j - r * b.sz = (i - r) * b.sz + j := by rw [Nat.sub_mul]; omega
                rw [this] at hy'
                exact (hN.rel (i - r) row j x y hi' hx hy').mono (SubM.refl _) hE
              · rw [List.getElem?_append_right (by simp; omega), List.getElem?_drop] at hi'
                simp only [List.length_replicate] at hi'
                rw [show r + n + (i - r - n) = i by omega] at hi'
                have hj : j < b.sz := by have := (List.getElem?_eq_some_iff.1 hx).1; rw [hat.len row (List.mem_of_getElem? hi')] at this; exact this
                have a1 := Nat.mul_le_mul_right b.sz (show r + n ≤ i by omega)
                rw [if_neg (by omega)] at hy'
                exact (hat.rows i row j x y hi' hx hy').mono (SubM.refl _) hE)
        rcases Nat.eq_zero_or_pos n with h0 | h0
        · subst h0
          refine ⟨w, by simp [Builtin.clear_, run_underlying hu], M, upd ρ k l, β, SubM.refl _, hE, ?_, tupNil, Adv.refl _, .inl rfl⟩
          have hz0 : (Builtin.zeroCells ze.cells 0).toList = [] := by unfold Builtin.zeroCells; simp
          rw [hz0] at hR'
          exact hR'
        · have hst := run_storeCells_cells (P := P) l.blk off (Builtin.zeroCells ze.cells n).toList 0 w (fun j hj => by rw [cell_at hat.at_, hoff (.inl h0)]; simp; omega) (fun j hj => by rw [frozen_at hat.at_]) (fun y hy => hN.one y hy)
          rw [Nat.add_zero, hoff (.inl h0)] at hst
          refine ⟨_, ?_, M, upd ρ k l, β, SubM.refl _, hE, hR', tupNil, Adv.setCells _ _ _ _, .inl rfl⟩
          rw [hoff (.inl h0)]
          have hn0 : n ≠ 0 := by omega
          obtain ⟨m, rfl⟩ : ∃ m, n = m + 1 := ⟨n - 1, by omega⟩
          simp [Builtin.clear_, run_underlying hu, run_zeroValue' hie hze, hst]
    · cases h
  · cases h
end
end Go.Proofs.Ytjdciikfbinchaa.Abs
