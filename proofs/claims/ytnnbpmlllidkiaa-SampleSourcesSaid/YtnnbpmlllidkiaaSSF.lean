/- SampleSources: the walk over the row's reading. -/
import Derived.Test.YtnnbpmlllidkiaaSSC
import Derived.Test.YtnnbpmlllidkiaaSSO
set_option linter.unusedVariables false
namespace Go.Proofs.Ytnnbpmlllidkiaa
open Go.RowKit
theorem lawSampleSources (A : Option Addr) (n c : Nat) (cs1 cs2 : Array Value) (w : World) (h0 : Rv Try.prog w 22 [.slice A n c]) (h1 : Rv Try.prog w 27 cs1.toList) (h2 : Rv Try.prog w 28 cs2.toList) :
    Calls Try.prog 3 #[.slice A n c, .agg cs1, .agg cs2] w fun e w' => e = .returned (.bool true) ∧ Below w.heap.size w w' := by
  obtain ⟨hnc, hcm, ims, hn, hA, hok⟩ := open_ims h0
  obtain ⟨kk, nn, m, c0, c1, c2, c3, e1⟩ := open_how h1
  obtain ⟨p0, p1, p2, e2⟩ := open_p3 h2
  have f1 : cs1 = howA kk nn m c0 c1 c2 c3 := by rw [← Array.toArray_toList (xs := cs1), e1]
  have f2 : cs2 = p3A p0 p1 p2 := by rw [← Array.toArray_toList (xs := cs2), e2]
  subst f1 f2
  exact src_walk ims A n c kk nn m c0 c1 c2 c3 p0 p1 p2 w hn hA hok hnc hcm
end Go.Proofs.Ytnnbpmlllidkiaa
