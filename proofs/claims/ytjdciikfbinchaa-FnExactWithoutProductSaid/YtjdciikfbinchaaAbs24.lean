/- The abstract machine at a statement's law: what it gives where nothing is written, the law gives. -/
import Derived.Test.YtjdciikfbinchaaAbs23
import Derived.Test.YtjdciikfbinchaaChecked
import Derived.Below
import Derived.KernelRfl
namespace Go.Proofs.Ytjdciikfbinchaa.Abs
open Go

theorem plain_of {P : Program} (h : (P.funcs.toList.all fun fn => !(fn.name == "runtime.NumGoroutine")) = true) : Plain P := by
  intro f fn hf _
  simp only [List.all_eq_true] at h
  have := h fn (Array.mem_toList_iff.2 (Array.mem_of_getElem? hf))
  simpa using this

set_option maxRecDepth 100000 in
theorem plain : Plain Try.prog := plain_of (by kernel_rfl)

/-- what lies in the memory when the law is called, and is never written -/
def mem (w : World) : Mem := fun g => w.heap[g]?

theorem real_start (w : World) : Real (mem w) (fun _ => none) (fun _ => none) [] [] w.heap :=
  ⟨fun g o h => h, fun k b h => (by simp at h), fun k k' l l' h => (by cases h), fun k l h => (by cases h), fun d g cs h => (by cases h), fun d g h => (by cases h), fun d d' g h => (by cases h), fun d g k l h => by cases h⟩

theorem law_calls {cfg : Cfgs} (hko : Keeps cfg.ora) (hora : RecSound Try.prog cfg.ora) {f : Nat} {vs : List AV} {hp' : List Blk} {c : Nat} (h : runF Try.prog cfg f vs [] = some (.bool true, hp', c)) (hL : allNoL vs = true) {w : World} {xs : Array Value} (hl : xs.size = vs.length)
    (hx : ∀ (j : Nat) x u, vs[j]? = some x → xs[j]? = some u → VRel (mem w) (fun _ => none) [] x u) : Calls Try.prog f xs w fun e w' => e = .returned (.bool true) ∧ RowKit.Below w.heap.size w w' := by
  refine (runF_calls Try.checked.mixed plain hko hora h hL (real_start w) hl hx).mono fun e w' ⟨u, he, M', ρ', hM, hE, hR, hv, hA⟩ => ⟨by rw [he, hv.bool_inv], hA.os, hA.tape, hA.output, hA.size, fun k hk => ?_⟩
  have := hR.mem k _ (hM k _ (Array.getElem?_eq_getElem hk))
  rw [this, Array.getElem?_eq_getElem hk]

end Go.Proofs.Ytjdciikfbinchaa.Abs
