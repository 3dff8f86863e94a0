/- Four blocks laid; the codes of a pass. -/
import Derived.Test.YtpcjoalbhicccaaTh25
set_option linter.unusedVariables false
namespace Go.Proofs.Ytpcjoalbhicccaa
open Go.RowKit
theorem allocs4 (w : World) (c1 c2 c3 c4 : Array Value) (t1 t2 t3 t4 : TypeId) :
    let W4 := (((w.alloc (.cells c1 t1)).alloc (.cells c2 t2)).alloc (.cells c3 t3)).alloc (.cells c4 t4)
    Bk W4 w.heap.size t1 c1 ∧ Bk W4 (w.heap.size + 1) t2 c2 ∧ Bk W4 (w.heap.size + 2) t3 c3 ∧ Bk W4 (w.heap.size + 3) t4 c4 ∧ Below w.heap.size w W4 ∧ W4.heap.size = w.heap.size + 4 := by
  intro W4
  refine ⟨(((Bk.new w t1 c1).alloc _).alloc _).alloc _, ?_, ?_, ?_, ?_, by simp [W4]⟩
  · simpa using (((Bk.new (w.alloc (.cells c1 t1)) t2 c2).alloc (.cells c3 t3)).alloc (.cells c4 t4))
  · simpa using ((Bk.new ((w.alloc (.cells c1 t1)).alloc (.cells c2 t2)) t3 c3).alloc (.cells c4 t4))
  · simpa using (Bk.new (((w.alloc (.cells c1 t1)).alloc (.cells c2 t2)).alloc (.cells c3 t3)) t4 c4)
  · show Below w.heap.size w _
    go_grown
theorem canC_2 {W H C : Int} {n : Nat} {a b c d p r s x0 y0 x1 y1 : Int} (h0 : checkC W H C n = 0) (h1 : atB W H a b c d = false) : canC W H C n a b c d p r s x0 y0 x1 y1 = 10 := by
  unfold canC; rw [if_neg (fun h => h h0), if_pos h1]
theorem canC_3 {W H C : Int} {n : Nat} {a b c d p r s x0 y0 x1 y1 : Int} (h0 : checkC W H C n = 0) (h1 : atB W H a b c d = true) (h2 : okS p r s = false ∨ emptyR x0 y0 x1 y1) : canC W H C n a b c d p r s x0 y0 x1 y1 = 11 := by
  unfold canC; rw [if_neg (fun h => h h0), if_neg (by rw [h1]; simp), if_pos h2]
theorem canC_4 {W H C : Int} {n : Nat} {a b c d p r s x0 y0 x1 y1 : Int} (h0 : checkC W H C n = 0) (h1 : atB W H a b c d = true) (h2 : okS p r s = true) (h3 : ¬ emptyR x0 y0 x1 y1) : canC W H C n a b c d p r s x0 y0 x1 y1 = if largeB x0 y0 x1 y1 = true then 30 else 0 := by
  unfold canC; rw [if_neg (fun h => h h0), if_neg (by rw [h1]; simp), if_neg (fun h => h.elim (by rw [h2]; simp) h3)]
end Go.Proofs.Ytpcjoalbhicccaa
