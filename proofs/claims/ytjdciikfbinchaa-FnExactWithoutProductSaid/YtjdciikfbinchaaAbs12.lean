/- The abstract machine: converting. -/
import Derived.Test.YtjdciikfbinchaaAbs11
import Derived.Laws.BytesString
import Derived.Laws.BytesArg
namespace Go.Proofs.Ytjdciikfbinchaa.Abs
open Go

section
variable {P : Program} {M : Mem} {ρ : Rho} {β : Nat → Option Nat} {hp : List Blk} {lo : List (Nat × List AV)} {w : World}

theorem bytes_type {t : Nat} (h : isBytes (tiOf P) t = true) : ∃ e, P.underlying t = some (.slice e) ∧ P.underlying e = some (.int .u8) := by
  unfold isBytes at h
  split at h
  · rename_i e te he
    obtain ⟨hu, hte⟩ := elemT_some he
    obtain ⟨i, z, d, hi, hz, hzc, hzl, htd, hsz, hby, hd, _⟩ := tiOf_some hte
    obtain ⟨hk, _⟩ := tyOf_eq (P := P) (t := e)
    split at h
    · rename_i hb
      rw [htd] at hb
      exact ⟨e, hu, hk _ hb⟩
    · cases h
  · cases h

theorem bytesOf_rel : ∀ (rows : List (List AV)) (l : List UInt8) (news : List Value), bytesOf rows = some l → news.length = rows.length →
    (∀ (i : Nat) row (j : Nat) x u, rows[i]? = some row → row[j]? = some x → news[i * 1 + j]? = some u → VRel M ρ hp x u) →
    ∃ ns : List Int, news = ns.map (Value.int .u8) ∧ ns.map (fun n => UInt8.ofNat n.toNat) = l
  | [], l, news, h, hl, _ => by
    simp [bytesOf] at h
    subst h
    exact ⟨[], by simpa using hl, rfl⟩
  | row :: rows, l, news, h, hl, hr => by
    unfold bytesOf at h
    split at h
    · rename_i he; cases he
    · rename_i n l0 he
      obtain ⟨rfl, rfl⟩ := List.cons.inj he
      simp only [Option.map_eq_some_iff] at h
      obtain ⟨l', hl', rfl⟩ := h
      cases news with
      | nil => simp at hl
      | cons u news =>
        have hu := hr 0 _ 0 _ u rfl rfl rfl
        rw [hu.int_inv]
        obtain ⟨ns, h1, h2⟩ := bytesOf_rel rows l' news hl' (by simpa using hl) (fun i row j x u hi hx hu => hr (i + 1) row j x u (by simpa using hi) hx (by rw [Nat.add_mul, Nat.one_mul, Nat.add_right_comm]; simpa using hu))
        exact ⟨n :: ns, by simp [h1], by simp [h2]⟩
    · cases h

theorem conv_rel {src dst : Nat} {x r : AV} {v : Value} (hR : Real M ρ β hp lo w.heap) (h : convA (tiOf P) hp src dst x = some r) (hx : ERel M ρ β hp x v) : ∃ u, (convert src dst v).run P w = .ok u w ∧ VRel M ρ hp r u := by
  unfold convA at h
  simp only [Option.bind_eq_some_iff] at h
  obtain ⟨ts, hts, ti, hti, h⟩ := h
  obtain ⟨i, z, d, hi, hz, hzc, hzl, htd, hsz, hby, hd, _⟩ := tiOf_some hti
  obtain ⟨is, zs, ds, his, _, _, _, _, _, _, hds, _⟩ := tiOf_some hts
  obtain ⟨hk, hstr, _⟩ := tyOf_eq (P := P) (t := dst)
  rw [htd] at h
  split at h
  · rename_i k hty
    have hdst := hk _ hty
    split at h
    · rename_i k' n
      cases h
      rw [hx.int_inv]
      exact ⟨.int k (k.wrap n), by cases ds <;> simp [convert, run_underlying hds, run_underlying hdst, Conv.intToInt], .int _ _⟩
    · cases h
  · rename_i hty
    have hdst := hstr hty
    split at h
    · rename_i s
      cases h
      rw [hx.str_inv]
      exact ⟨.string s, by cases ds <;> simp [convert, run_underlying hds, run_underlying hdst], .str _⟩
    · rename_i k r0 n t
      cases hb : isBytes (tiOf P) src with
      | false => rw [hb] at h; cases h
      | true =>
        rw [hb] at h
        simp only [cond_true, Option.bind_eq_some_iff, Option.map_eq_some_iff] at h
        obtain ⟨rows, hrows, l, hl, rfl⟩ := h
        obtain ⟨e, hue, hbe⟩ := bytes_type hb
        have hsrc : isSrc (tiOf P) src = true := by
          unfold isSrc
          rw [hts]
          obtain ⟨_, _, _, _, _, _, _, htd', _⟩ := tiOf_some hts
          simp only [htd', tyOf, hue]
        obtain ⟨news, hS, hN⟩ := src_rel hR hsrc hx hrows
        cases hx.v (fun _ _ e => by cases e) with
        | @sl _ _ _ _ _ b' pl hb' hl' hle _ hsl =>
          have hfr : ∃ b, fresh hp k t = some b ∧ (b.sz = 1 ∧ r0 + n ≤ b.rows.length) ∧ rows = (b.rows.drop r0).take n := by
            simp only [rowsA, Option.bind_eq_some_iff] at hrows
            obtain ⟨b, hb, h⟩ := hrows
            split at h
            · rename_i hc; cases h; exact ⟨b, hb, hc, rfl⟩
            · cases h
          obtain ⟨b, hfb, ⟨hb1sz, hrn⟩, hrw⟩ := hfr
          obtain ⟨hb1, hb2⟩ := fresh_some hfb
          rw [hb1] at hb'
          cases hb'
          obtain ⟨off, cap, rfl, hnc, hoff, hcap⟩ := hsl hb2
          have hrl : rows.length = n := by rw [hrw]; simp; omega
          obtain ⟨ns, hns, hmap⟩ := bytesOf_rel rows l news hl (by rw [hN.len, Nat.mul_one]) hN.rel
          have hcells : (loadCells ⟨pl.blk, off, none⟩ n).run P w = .ok (ns.map (Value.int .u8)).toArray w := by
            have := hS.cells
            simp only [Builtin.firstCells, Nat.mul_one, hrl] at this
            rw [this, hns]
          refine ⟨.string ⟨l.toArray⟩, ?_, .str _⟩
          rw [run_convert_bytes_string w src dst e _ n cap hue hbe hdst, run_bytesToString w _ n cap ns hcells, foldl_push_bytes, hmap]
          simp [ByteArray.empty, ByteArray.emptyWithCapacity]
          rfl
    · cases h
  · cases h

end
end Go.Proofs.Ytjdciikfbinchaa.Abs
