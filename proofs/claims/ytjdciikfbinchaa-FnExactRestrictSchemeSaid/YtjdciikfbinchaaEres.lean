/- Equations of the abstract machine for some functions and their loops, printed by a program. -/
import Derived.Test.YtjdciikfbinchaaDa
import Derived.Test.YtjdciikfbinchaaDcut
import Derived.Test.YtjdciikfbinchaaDk
namespace Go.Proofs.Ytjdciikfbinchaa.Fn
open Go Go.Proofs.Ytjdciikfbinchaa.Abs
set_option maxRecDepth 100000
set_option linter.unusedVariables false
def SimplRestrictScheme_7 (p : Int) (r : Int) (k : Int) (c : Int) (n : Nat) (q : Nat → Nat → Int) (a : Int) (b : Int) (d : Int) (x54 : Int) : KS := ⟨[(1, I a), (2, I b), (3, I d), (4, (AV.lptr 4 0)), (8, (AV.lptr 8 0)), (10, (AV.lptr 10 0)), (52, (AV.vi .u8 27 n q)), (53, I ((n : Nat) : Int)), (54, I x54)], [(4, [I p, I r, I k, I c, (AV.vi .u8 27 n q)]), (8, [I 0, I 0, I 0, I 0, AV.nilsl]), (10, [I p, I a, I b, I d, AV.nilsl])], [], 0, true⟩
noncomputable def LimplRestrictScheme_7 (p : Int) (r : Int) (k : Int) (c : Int) (n : Nat) (q : Nat → Nat → Int) (a : Int) (b : Int) (d : Int) (N : Nat) (m : Nat) (x54 : Int) : R := loopAtH Try.prog (kc (tabOf [e_IsScheme, e_isSize, e_cut])) 40 (rnd [] 40 N) 50 [] [true, true, true, false, true, false] [] m (SimplRestrictScheme_7 p r k c n q a b d x54) done
def SimplRestrictScheme_7b (p : Int) (r : Int) (k : Int) (c : Int) (n : Nat) (q : Nat → Nat → Int) (a : Int) (b : Int) (d : Int) (x54 : Int) (ny10_4 : Nat) (qh0 : Nat → Nat → Int) : KS := ⟨[(1, I a), (2, I b), (3, I d), (4, (AV.lptr 4 0)), (8, (AV.lptr 8 0)), (10, (AV.lptr 10 0)), (52, (AV.vi .u8 27 n q)), (53, I ((n : Nat) : Int)), (54, I x54)], [(4, [I p, I r, I k, I c, (AV.vi .u8 27 n q)]), (8, [I 0, I 0, I 0, I 0, AV.nilsl]), (10, [I p, I a, I b, I d, (AV.sl 0 0 ny10_4 ny10_4)])], [(KB.mk 63 27 (KR.ints .u8 27 ny10_4 qh0))], 0, true⟩
noncomputable def LimplRestrictScheme_7b (p : Int) (r : Int) (k : Int) (c : Int) (n : Nat) (q : Nat → Nat → Int) (a : Int) (b : Int) (d : Int) (N : Nat) (m : Nat) (x54 : Int) (ny10_4 : Nat) (qh0 : Nat → Nat → Int) : R := loopAtH Try.prog (kc (tabOf [e_IsScheme, e_isSize, e_cut])) 40 (rnd [] 40 N) 50 [] [true, true, true, false, true, false] [] m (SimplRestrictScheme_7b p r k c n q a b d x54 ny10_4 qh0) done
theorem simplRestrictScheme (p : Int) (r : Int) (k : Int) (c : Int) (n : Nat) (q : Nat → Nat → Int) (a : Int) (b : Int) (d : Int) (N : Nat) : fnK Try.prog (kc (tabOf [e_IsScheme, e_isSize, e_cut])) 40 (rnd [] 40 N) 50 [.agg [I p, I r, I k, I c, .vi .u8 27 n q], I a, I b, I d]  done =
    (bif (!(isB p r k c n q)) then (some ((AV.tup [(AV.agg [I 0, I 0, I 0, I 0, AV.nilsl]), I 1]), [], true)) else
    bif (!((sizeB a) && ((sizeB b) && (sizeB d)))) then (some ((AV.tup [(AV.agg [I 0, I 0, I 0, I 0, AV.nilsl]), I 2]), [], true)) else
    bif (decide (r < a)) then (some ((AV.tup [(AV.agg [I 0, I 0, I 0, I 0, AV.nilsl]), I 2]), [], true)) else
    bif (decide (k < b)) then (some ((AV.tup [(AV.agg [I 0, I 0, I 0, I 0, AV.nilsl]), I 2]), [], true)) else
    bif (decide (c < d)) then (some ((AV.tup [(AV.agg [I 0, I 0, I 0, I 0, AV.nilsl]), I 2]), [], true)) else
    LimplRestrictScheme_7 p r k c n q a b d N N 0) := by kernel_rfl
theorem rimplRestrictScheme_7 (p : Int) (r : Int) (k : Int) (c : Int) (n : Nat) (q : Nat → Nat → Int) (a : Int) (b : Int) (d : Int) (N : Nat) (m : Nat) (x54 : Int) : LimplRestrictScheme_7 p r k c n q a b d N  (m + 1) x54 =
    (bif (decide (x54 < ((n : Nat) : Int))) then (chk (decide ((0 ≤ x54) ∧ (x54 < ((n : Nat) : Int)))) <|
      chk ((decide ((1 ≤ a) ∧ (a ≤ 3))) && ((decide ((1 ≤ b) ∧ (b ≤ k))) && (decide (k ≤ 3)))) <|
      chk ((decide ((1 ≤ b) ∧ (b ≤ 3))) && ((decide ((1 ≤ d) ∧ (d ≤ c))) && (decide (c ≤ 3)))) <|
      chk ((decide ((1 ≤ a) ∧ (a ≤ 3))) && ((decide ((1 ≤ d) ∧ (d ≤ c))) && (decide (c ≤ 3)))) <|
      bif (zero9 (cutQ (Int.toNat k) (Int.toNat a) (Int.toNat b) (pA (q (Int.toNat x54))))) then (LimplRestrictScheme_7 p r k c n q a b d N m (W (x54 + 1))) else
      bif (zero9 (cutQ (Int.toNat c) (Int.toNat b) (Int.toNat d) (pB (q (Int.toNat x54))))) then (LimplRestrictScheme_7 p r k c n q a b d N m (W (x54 + 1))) else
      bif (!(zero9 (cutQ (Int.toNat c) (Int.toNat a) (Int.toNat d) (pC (q (Int.toNat x54)))))) then (LimplRestrictScheme_7b p r k c n q a b d N m (W (x54 + 1)) 1 (fun _ => (prodQ (cutQ (Int.toNat k) (Int.toNat a) (Int.toNat b) (pA (q (Int.toNat x54)))) (cutQ (Int.toNat c) (Int.toNat b) (Int.toNat d) (pB (q (Int.toNat x54)))) (cutQ (Int.toNat c) (Int.toNat a) (Int.toNat d) (pC (q (Int.toNat x54))))))) else
      LimplRestrictScheme_7 p r k c n q a b d N m (W (x54 + 1))) else
    some ((AV.tup [(AV.agg [I p, I a, I b, I d, AV.nilsl]), I 0]), [], true)) := by kernel_rfl
theorem rimplRestrictScheme_7b (p : Int) (r : Int) (k : Int) (c : Int) (n : Nat) (q : Nat → Nat → Int) (a : Int) (b : Int) (d : Int) (N : Nat) (m : Nat) (x54 : Int) (ny10_4 : Nat) (qh0 : Nat → Nat → Int) : LimplRestrictScheme_7b p r k c n q a b d N  (m + 1) x54 ny10_4 qh0 =
    (bif (decide (x54 < ((n : Nat) : Int))) then (chk (decide ((0 ≤ x54) ∧ (x54 < ((n : Nat) : Int)))) <|
      chk ((decide ((1 ≤ a) ∧ (a ≤ 3))) && ((decide ((1 ≤ b) ∧ (b ≤ k))) && (decide (k ≤ 3)))) <|
      chk ((decide ((1 ≤ b) ∧ (b ≤ 3))) && ((decide ((1 ≤ d) ∧ (d ≤ c))) && (decide (c ≤ 3)))) <|
      chk ((decide ((1 ≤ a) ∧ (a ≤ 3))) && ((decide ((1 ≤ d) ∧ (d ≤ c))) && (decide (c ≤ 3)))) <|
      bif (zero9 (cutQ (Int.toNat k) (Int.toNat a) (Int.toNat b) (pA (q (Int.toNat x54))))) then (LimplRestrictScheme_7b p r k c n q a b d N m (W (x54 + 1)) ny10_4 qh0) else
      bif (zero9 (cutQ (Int.toNat c) (Int.toNat b) (Int.toNat d) (pB (q (Int.toNat x54))))) then (LimplRestrictScheme_7b p r k c n q a b d N m (W (x54 + 1)) ny10_4 qh0) else
      bif (!(zero9 (cutQ (Int.toNat c) (Int.toNat a) (Int.toNat d) (pC (q (Int.toNat x54)))))) then (chk (ny10_4 == ny10_4) <|
        chk (decide ((ny10_4 + 1) ≤ 4294967296)) <|
        chk (decide (ny10_4 = ny10_4)) <|
        LimplRestrictScheme_7b p r k c n q a b d N m (W (x54 + 1)) (ny10_4 + 1) (fun a1 c1 => (bif (decide (a1 < ny10_4)) then (qh0 a1 c1) else (prodQ (cutQ (Int.toNat k) (Int.toNat a) (Int.toNat b) (pA (q (Int.toNat x54)))) (cutQ (Int.toNat c) (Int.toNat b) (Int.toNat d) (pB (q (Int.toNat x54)))) (cutQ (Int.toNat c) (Int.toNat a) (Int.toNat d) (pC (q (Int.toNat x54)))) c1)))) else
      LimplRestrictScheme_7b p r k c n q a b d N m (W (x54 + 1)) ny10_4 qh0) else
    some ((AV.tup [(AV.agg [I p, I a, I b, I d, (AV.sl 0 0 ny10_4 ny10_4)]), I 0]), [(KB.mk 63 27 (KR.ints .u8 27 ny10_4 qh0))], true)) := by kernel_rfl

def SspecRestrictScheme_7 (p : Int) (r : Int) (k : Int) (c : Int) (n : Nat) (q : Nat → Nat → Int) (a : Int) (b : Int) (d : Int) (x11 : Int) : KS := ⟨[(1, I a), (2, I b), (3, I d), (4, (AV.lptr 4 0)), (8, (AV.lptr 8 0)), (10, (AV.lptr 10 0)), (11, I x11)], [(4, [I p, I r, I k, I c, (AV.vi .u8 27 n q)]), (8, [I 0, I 0, I 0, I 0, AV.nilsl]), (10, [I p, I a, I b, I d, AV.nilsl])], [], 0, true⟩
noncomputable def LspecRestrictScheme_7 (p : Int) (r : Int) (k : Int) (c : Int) (n : Nat) (q : Nat → Nat → Int) (a : Int) (b : Int) (d : Int) (N : Nat) (m : Nat) (x11 : Int) : R := loopAtH Try.prog (kc (tabOf [e_l01Is, e_l02Cut])) 40 (rnd [] 40 N) 49 [] [true, true, true, false, true, false] [] m (SspecRestrictScheme_7 p r k c n q a b d x11) done
def SspecRestrictScheme_7b (p : Int) (r : Int) (k : Int) (c : Int) (n : Nat) (q : Nat → Nat → Int) (a : Int) (b : Int) (d : Int) (x11 : Int) (ny10_4 : Nat) (qh0 : Nat → Nat → Int) : KS := ⟨[(1, I a), (2, I b), (3, I d), (4, (AV.lptr 4 0)), (8, (AV.lptr 8 0)), (10, (AV.lptr 10 0)), (11, I x11)], [(4, [I p, I r, I k, I c, (AV.vi .u8 27 n q)]), (8, [I 0, I 0, I 0, I 0, AV.nilsl]), (10, [I p, I a, I b, I d, (AV.sl 0 0 ny10_4 ny10_4)])], [(KB.mk 63 27 (KR.ints .u8 27 ny10_4 qh0))], 0, true⟩
noncomputable def LspecRestrictScheme_7b (p : Int) (r : Int) (k : Int) (c : Int) (n : Nat) (q : Nat → Nat → Int) (a : Int) (b : Int) (d : Int) (N : Nat) (m : Nat) (x11 : Int) (ny10_4 : Nat) (qh0 : Nat → Nat → Int) : R := loopAtH Try.prog (kc (tabOf [e_l01Is, e_l02Cut])) 40 (rnd [] 40 N) 49 [] [true, true, true, false, true, false] [] m (SspecRestrictScheme_7b p r k c n q a b d x11 ny10_4 qh0) done
theorem sspecRestrictScheme (p : Int) (r : Int) (k : Int) (c : Int) (n : Nat) (q : Nat → Nat → Int) (a : Int) (b : Int) (d : Int) (N : Nat) : fnK Try.prog (kc (tabOf [e_l01Is, e_l02Cut])) 40 (rnd [] 40 N) 49 [.agg [I p, I r, I k, I c, .vi .u8 27 n q], I a, I b, I d]  done =
    (bif (!(isB p r k c n q)) then (some ((AV.tup [(AV.agg [I 0, I 0, I 0, I 0, AV.nilsl]), I 1]), [], true)) else
    bif (decide (1 ≤ a)) then (bif (!(decide (a ≤ r))) then (some ((AV.tup [(AV.agg [I 0, I 0, I 0, I 0, AV.nilsl]), I 2]), [], true)) else
      bif (decide (1 ≤ b)) then (bif (!(decide (b ≤ k))) then (some ((AV.tup [(AV.agg [I 0, I 0, I 0, I 0, AV.nilsl]), I 2]), [], true)) else
        bif (decide (1 ≤ d)) then (bif (!(decide (d ≤ c))) then (some ((AV.tup [(AV.agg [I 0, I 0, I 0, I 0, AV.nilsl]), I 2]), [], true)) else
          LspecRestrictScheme_7 p r k c n q a b d N N 0) else
        some ((AV.tup [(AV.agg [I 0, I 0, I 0, I 0, AV.nilsl]), I 2]), [], true)) else
      some ((AV.tup [(AV.agg [I 0, I 0, I 0, I 0, AV.nilsl]), I 2]), [], true)) else
    some ((AV.tup [(AV.agg [I 0, I 0, I 0, I 0, AV.nilsl]), I 2]), [], true)) := by kernel_rfl
theorem rspecRestrictScheme_7 (p : Int) (r : Int) (k : Int) (c : Int) (n : Nat) (q : Nat → Nat → Int) (a : Int) (b : Int) (d : Int) (N : Nat) (m : Nat) (x11 : Int) : LspecRestrictScheme_7 p r k c n q a b d N  (m + 1) x11 =
    (bif (decide (x11 < ((n : Nat) : Int))) then (chk (decide ((0 ≤ x11) ∧ (x11 < ((n : Nat) : Int)))) <|
      chk ((decide ((1 ≤ a) ∧ (a ≤ 3))) && ((decide ((1 ≤ b) ∧ (b ≤ k))) && (decide (k ≤ 3)))) <|
      chk ((decide ((1 ≤ b) ∧ (b ≤ 3))) && ((decide ((1 ≤ d) ∧ (d ≤ c))) && (decide (c ≤ 3)))) <|
      chk ((decide ((1 ≤ a) ∧ (a ≤ 3))) && ((decide ((1 ≤ d) ∧ (d ≤ c))) && (decide (c ≤ 3)))) <|
      bif (!(zero9 (cutQ (Int.toNat k) (Int.toNat a) (Int.toNat b) (pA (q (Int.toNat x11)))))) then (bif (!(zero9 (cutQ (Int.toNat c) (Int.toNat b) (Int.toNat d) (pB (q (Int.toNat x11)))))) then (bif (!(zero9 (cutQ (Int.toNat c) (Int.toNat a) (Int.toNat d) (pC (q (Int.toNat x11)))))) then (LspecRestrictScheme_7b p r k c n q a b d N m (W (x11 + 1)) 1 (fun _ => (prodQ (cutQ (Int.toNat k) (Int.toNat a) (Int.toNat b) (pA (q (Int.toNat x11)))) (cutQ (Int.toNat c) (Int.toNat b) (Int.toNat d) (pB (q (Int.toNat x11)))) (cutQ (Int.toNat c) (Int.toNat a) (Int.toNat d) (pC (q (Int.toNat x11))))))) else
          LspecRestrictScheme_7 p r k c n q a b d N m (W (x11 + 1))) else
        LspecRestrictScheme_7 p r k c n q a b d N m (W (x11 + 1))) else
      LspecRestrictScheme_7 p r k c n q a b d N m (W (x11 + 1))) else
    some ((AV.tup [(AV.agg [I p, I a, I b, I d, AV.nilsl]), I 0]), [], true)) := by kernel_rfl
theorem rspecRestrictScheme_7b (p : Int) (r : Int) (k : Int) (c : Int) (n : Nat) (q : Nat → Nat → Int) (a : Int) (b : Int) (d : Int) (N : Nat) (m : Nat) (x11 : Int) (ny10_4 : Nat) (qh0 : Nat → Nat → Int) : LspecRestrictScheme_7b p r k c n q a b d N  (m + 1) x11 ny10_4 qh0 =
    (bif (decide (x11 < ((n : Nat) : Int))) then (chk (decide ((0 ≤ x11) ∧ (x11 < ((n : Nat) : Int)))) <|
      chk ((decide ((1 ≤ a) ∧ (a ≤ 3))) && ((decide ((1 ≤ b) ∧ (b ≤ k))) && (decide (k ≤ 3)))) <|
      chk ((decide ((1 ≤ b) ∧ (b ≤ 3))) && ((decide ((1 ≤ d) ∧ (d ≤ c))) && (decide (c ≤ 3)))) <|
      chk ((decide ((1 ≤ a) ∧ (a ≤ 3))) && ((decide ((1 ≤ d) ∧ (d ≤ c))) && (decide (c ≤ 3)))) <|
      bif (!(zero9 (cutQ (Int.toNat k) (Int.toNat a) (Int.toNat b) (pA (q (Int.toNat x11)))))) then (bif (!(zero9 (cutQ (Int.toNat c) (Int.toNat b) (Int.toNat d) (pB (q (Int.toNat x11)))))) then (bif (!(zero9 (cutQ (Int.toNat c) (Int.toNat a) (Int.toNat d) (pC (q (Int.toNat x11)))))) then (chk (ny10_4 == ny10_4) <|
            chk (decide ((ny10_4 + 1) ≤ 4294967296)) <|
            chk (decide (ny10_4 = ny10_4)) <|
            LspecRestrictScheme_7b p r k c n q a b d N m (W (x11 + 1)) (ny10_4 + 1) (fun a1 c1 => (bif (decide (a1 < ny10_4)) then (qh0 a1 c1) else (prodQ (cutQ (Int.toNat k) (Int.toNat a) (Int.toNat b) (pA (q (Int.toNat x11)))) (cutQ (Int.toNat c) (Int.toNat b) (Int.toNat d) (pB (q (Int.toNat x11)))) (cutQ (Int.toNat c) (Int.toNat a) (Int.toNat d) (pC (q (Int.toNat x11)))) c1)))) else
          LspecRestrictScheme_7b p r k c n q a b d N m (W (x11 + 1)) ny10_4 qh0) else
        LspecRestrictScheme_7b p r k c n q a b d N m (W (x11 + 1)) ny10_4 qh0) else
      LspecRestrictScheme_7b p r k c n q a b d N m (W (x11 + 1)) ny10_4 qh0) else
    some ((AV.tup [(AV.agg [I p, I a, I b, I d, (AV.sl 0 0 ny10_4 ny10_4)]), I 0]), [(KB.mk 63 27 (KR.ints .u8 27 ny10_4 qh0))], true)) := by kernel_rfl

end Go.Proofs.Ytjdciikfbinchaa.Fn
