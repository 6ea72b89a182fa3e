/- Standard schemes of each size, by running l01Standard. -/
import Derived.Test.YtjdciikfbinchaaDstd
namespace Go.Proofs.Ytjdciikfbinchaa.Fn
open Go Go.Proofs.Ytjdciikfbinchaa.Abs
set_option maxRecDepth 100000
theorem l01Standard_111 (p : Int) : fnK Try.prog (kc (tabOf [])) 40 (rnd [] 40 10) 57 [I p, I 1, I 1, I 1] done = some (.agg [I p, I 1, I 1, I 1, .sl 0 0 1 1], [⟨tProduct, 27, .lst (stdRows 1 1 1)⟩], true) := by kernel_rfl
theorem l01Standard_112 (p : Int) : fnK Try.prog (kc (tabOf [])) 40 (rnd [] 40 10) 57 [I p, I 1, I 1, I 2] done = some (.agg [I p, I 1, I 1, I 2, .sl 0 0 2 2], [⟨tProduct, 27, .lst (stdRows 1 1 2)⟩], true) := by kernel_rfl
theorem l01Standard_113 (p : Int) : fnK Try.prog (kc (tabOf [])) 40 (rnd [] 40 10) 57 [I p, I 1, I 1, I 3] done = some (.agg [I p, I 1, I 1, I 3, .sl 0 0 3 3], [⟨tProduct, 27, .lst (stdRows 1 1 3)⟩], true) := by kernel_rfl
theorem l01Standard_121 (p : Int) : fnK Try.prog (kc (tabOf [])) 40 (rnd [] 40 10) 57 [I p, I 1, I 2, I 1] done = some (.agg [I p, I 1, I 2, I 1, .sl 0 0 2 2], [⟨tProduct, 27, .lst (stdRows 1 2 1)⟩], true) := by kernel_rfl
theorem l01Standard_122 (p : Int) : fnK Try.prog (kc (tabOf [])) 40 (rnd [] 40 10) 57 [I p, I 1, I 2, I 2] done = some (.agg [I p, I 1, I 2, I 2, .sl 0 0 4 4], [⟨tProduct, 27, .lst (stdRows 1 2 2)⟩], true) := by kernel_rfl
theorem l01Standard_123 (p : Int) : fnK Try.prog (kc (tabOf [])) 40 (rnd [] 40 10) 57 [I p, I 1, I 2, I 3] done = some (.agg [I p, I 1, I 2, I 3, .sl 0 0 6 6], [⟨tProduct, 27, .lst (stdRows 1 2 3)⟩], true) := by kernel_rfl
theorem l01Standard_131 (p : Int) : fnK Try.prog (kc (tabOf [])) 40 (rnd [] 40 10) 57 [I p, I 1, I 3, I 1] done = some (.agg [I p, I 1, I 3, I 1, .sl 0 0 3 3], [⟨tProduct, 27, .lst (stdRows 1 3 1)⟩], true) := by kernel_rfl
theorem l01Standard_132 (p : Int) : fnK Try.prog (kc (tabOf [])) 40 (rnd [] 40 10) 57 [I p, I 1, I 3, I 2] done = some (.agg [I p, I 1, I 3, I 2, .sl 0 0 6 6], [⟨tProduct, 27, .lst (stdRows 1 3 2)⟩], true) := by kernel_rfl
theorem l01Standard_133 (p : Int) : fnK Try.prog (kc (tabOf [])) 40 (rnd [] 40 10) 57 [I p, I 1, I 3, I 3] done = some (.agg [I p, I 1, I 3, I 3, .sl 0 0 9 9], [⟨tProduct, 27, .lst (stdRows 1 3 3)⟩], true) := by kernel_rfl
theorem l01Standard_211 (p : Int) : fnK Try.prog (kc (tabOf [])) 40 (rnd [] 40 10) 57 [I p, I 2, I 1, I 1] done = some (.agg [I p, I 2, I 1, I 1, .sl 0 0 2 2], [⟨tProduct, 27, .lst (stdRows 2 1 1)⟩], true) := by kernel_rfl
theorem l01Standard_212 (p : Int) : fnK Try.prog (kc (tabOf [])) 40 (rnd [] 40 10) 57 [I p, I 2, I 1, I 2] done = some (.agg [I p, I 2, I 1, I 2, .sl 0 0 4 4], [⟨tProduct, 27, .lst (stdRows 2 1 2)⟩], true) := by kernel_rfl
theorem l01Standard_213 (p : Int) : fnK Try.prog (kc (tabOf [])) 40 (rnd [] 40 10) 57 [I p, I 2, I 1, I 3] done = some (.agg [I p, I 2, I 1, I 3, .sl 0 0 6 6], [⟨tProduct, 27, .lst (stdRows 2 1 3)⟩], true) := by kernel_rfl
theorem l01Standard_221 (p : Int) : fnK Try.prog (kc (tabOf [])) 40 (rnd [] 40 10) 57 [I p, I 2, I 2, I 1] done = some (.agg [I p, I 2, I 2, I 1, .sl 0 0 4 4], [⟨tProduct, 27, .lst (stdRows 2 2 1)⟩], true) := by kernel_rfl
theorem l01Standard_222 (p : Int) : fnK Try.prog (kc (tabOf [])) 40 (rnd [] 40 10) 57 [I p, I 2, I 2, I 2] done = some (.agg [I p, I 2, I 2, I 2, .sl 0 0 8 8], [⟨tProduct, 27, .lst (stdRows 2 2 2)⟩], true) := by kernel_rfl
theorem l01Standard_223 (p : Int) : fnK Try.prog (kc (tabOf [])) 40 (rnd [] 40 10) 57 [I p, I 2, I 2, I 3] done = some (.agg [I p, I 2, I 2, I 3, .sl 0 0 12 12], [⟨tProduct, 27, .lst (stdRows 2 2 3)⟩], true) := by kernel_rfl
theorem l01Standard_231 (p : Int) : fnK Try.prog (kc (tabOf [])) 40 (rnd [] 40 10) 57 [I p, I 2, I 3, I 1] done = some (.agg [I p, I 2, I 3, I 1, .sl 0 0 6 6], [⟨tProduct, 27, .lst (stdRows 2 3 1)⟩], true) := by kernel_rfl
theorem l01Standard_232 (p : Int) : fnK Try.prog (kc (tabOf [])) 40 (rnd [] 40 10) 57 [I p, I 2, I 3, I 2] done = some (.agg [I p, I 2, I 3, I 2, .sl 0 0 12 12], [⟨tProduct, 27, .lst (stdRows 2 3 2)⟩], true) := by kernel_rfl
theorem l01Standard_233 (p : Int) : fnK Try.prog (kc (tabOf [])) 40 (rnd [] 40 10) 57 [I p, I 2, I 3, I 3] done = some (.agg [I p, I 2, I 3, I 3, .sl 0 0 18 18], [⟨tProduct, 27, .lst (stdRows 2 3 3)⟩], true) := by kernel_rfl
theorem l01Standard_311 (p : Int) : fnK Try.prog (kc (tabOf [])) 40 (rnd [] 40 10) 57 [I p, I 3, I 1, I 1] done = some (.agg [I p, I 3, I 1, I 1, .sl 0 0 3 3], [⟨tProduct, 27, .lst (stdRows 3 1 1)⟩], true) := by kernel_rfl
theorem l01Standard_312 (p : Int) : fnK Try.prog (kc (tabOf [])) 40 (rnd [] 40 10) 57 [I p, I 3, I 1, I 2] done = some (.agg [I p, I 3, I 1, I 2, .sl 0 0 6 6], [⟨tProduct, 27, .lst (stdRows 3 1 2)⟩], true) := by kernel_rfl
theorem l01Standard_313 (p : Int) : fnK Try.prog (kc (tabOf [])) 40 (rnd [] 40 10) 57 [I p, I 3, I 1, I 3] done = some (.agg [I p, I 3, I 1, I 3, .sl 0 0 9 9], [⟨tProduct, 27, .lst (stdRows 3 1 3)⟩], true) := by kernel_rfl
theorem l01Standard_321 (p : Int) : fnK Try.prog (kc (tabOf [])) 40 (rnd [] 40 10) 57 [I p, I 3, I 2, I 1] done = some (.agg [I p, I 3, I 2, I 1, .sl 0 0 6 6], [⟨tProduct, 27, .lst (stdRows 3 2 1)⟩], true) := by kernel_rfl
theorem l01Standard_322 (p : Int) : fnK Try.prog (kc (tabOf [])) 40 (rnd [] 40 10) 57 [I p, I 3, I 2, I 2] done = some (.agg [I p, I 3, I 2, I 2, .sl 0 0 12 12], [⟨tProduct, 27, .lst (stdRows 3 2 2)⟩], true) := by kernel_rfl
theorem l01Standard_323 (p : Int) : fnK Try.prog (kc (tabOf [])) 40 (rnd [] 40 10) 57 [I p, I 3, I 2, I 3] done = some (.agg [I p, I 3, I 2, I 3, .sl 0 0 18 18], [⟨tProduct, 27, .lst (stdRows 3 2 3)⟩], true) := by kernel_rfl
theorem l01Standard_331 (p : Int) : fnK Try.prog (kc (tabOf [])) 40 (rnd [] 40 10) 57 [I p, I 3, I 3, I 1] done = some (.agg [I p, I 3, I 3, I 1, .sl 0 0 9 9], [⟨tProduct, 27, .lst (stdRows 3 3 1)⟩], true) := by kernel_rfl
theorem l01Standard_332 (p : Int) : fnK Try.prog (kc (tabOf [])) 40 (rnd [] 40 10) 57 [I p, I 3, I 3, I 2] done = some (.agg [I p, I 3, I 3, I 2, .sl 0 0 18 18], [⟨tProduct, 27, .lst (stdRows 3 3 2)⟩], true) := by kernel_rfl
theorem l01Standard_333 (p : Int) : fnK Try.prog (kc (tabOf [])) 40 (rnd [] 40 10) 57 [I p, I 3, I 3, I 3] done = some (.agg [I p, I 3, I 3, I 3, .sl 0 0 27 27], [⟨tProduct, 27, .lst (stdRows 3 3 3)⟩], true) := by kernel_rfl
theorem l01Standard_ok : EntOk e_l01Standard := standard_ok' (fun p n m k h1 h2 h3 => by
  rcases of3 h1.1 h1.2 with rfl | rfl | rfl <;> rcases of3 h2.1 h2.2 with rfl | rfl | rfl <;> rcases of3 h3.1 h3.2 with rfl | rfl | rfl
  · exact l01Standard_111 p
  · exact l01Standard_112 p
  · exact l01Standard_113 p
  · exact l01Standard_121 p
  · exact l01Standard_122 p
  · exact l01Standard_123 p
  · exact l01Standard_131 p
  · exact l01Standard_132 p
  · exact l01Standard_133 p
  · exact l01Standard_211 p
  · exact l01Standard_212 p
  · exact l01Standard_213 p
  · exact l01Standard_221 p
  · exact l01Standard_222 p
  · exact l01Standard_223 p
  · exact l01Standard_231 p
  · exact l01Standard_232 p
  · exact l01Standard_233 p
  · exact l01Standard_311 p
  · exact l01Standard_312 p
  · exact l01Standard_313 p
  · exact l01Standard_321 p
  · exact l01Standard_322 p
  · exact l01Standard_323 p
  · exact l01Standard_331 p
  · exact l01Standard_332 p
  · exact l01Standard_333 p) rfl
end Go.Proofs.Ytjdciikfbinchaa.Fn
