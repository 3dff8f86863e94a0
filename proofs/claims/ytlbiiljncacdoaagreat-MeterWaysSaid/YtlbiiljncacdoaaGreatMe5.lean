/- xform.Check of an affine one; meter: the chapter's example. -/
import Derived.Test.YtlbiiljncacdoaaGreatMe4
import Derived.Test.YtlbiiljncacdoaaGreatXB
import Derived.Test.YtlbiiljncacdoaaGreatK3
set_option linter.unusedVariables false
namespace Go.Proofs.YtlbiiljncacdoaaGreat
open Go.RowKit
set_option maxRecDepth 100000 in
set_option maxHeartbeats 4000000 in
theorem xcheck_aff (l : List Int) (A : Option Addr) (n cp : Nat) (W H : Int) (w : World) (hl : l.length = n) (hr : Rd w w.heap.size A (l.map (Value.int .i64))) (hs : szH W H = true) :
    Calls Tryz.prog 27 #[xfV 1 A n cp, .int .i64 W, .int .i64 H] w fun e w' => e = .returned (.int .i64 (afC l)) ∧ Below w.heap.size w w' := by
  have hb := (Below.refl w.heap.size w).alloc (Nat.le_refl _) (.cells #[.int .i64 1, .slice A n cp] 31)
  have hN := xnew_aff l A n cp W H (w.alloc (.cells #[.int .i64 1, .slice A n cp] 31)) hl ((hr.alloc (Nat.le_refl _) _).more hb.size) hs
  clear hl hr hs
  generalize afC l = C at *
  go_enter Tryz.func27, Tryz.ntmps27
  go_wp2_with fail
  refine hN.mono ?_
  rintro e w1 ⟨p, rfl, _, _, hb1⟩
  go_wp2_with fail
  go_returns
  exact ⟨rfl, hb.trans (hb1.mono hb.size)⟩
theorem al44_wr : wrC 10 10 1 0 0 0 0 = 0 := by decide +kernel
theorem al44_ea : eaC 1 0 = 4 := by decide +kernel
theorem un_C5 : afC unL = 0 := by decide +kernel
theorem sz1010 : szH 10 10 = true := by decide +kernel
set_option maxRecDepth 100000 in
set_option maxHeartbeats 4000000 in
theorem alive44 (w : World) : Calls Tryz.prog 61 #[] w fun e w' => e = .returned (.bool true) ∧ Below w.heap.size w w' := by
  go_enter Tryz.func61, Tryz.ntmps61
  go_wp2_with fail
  refine (whole_yes 10 10 w sz1010).mono ?_
  rintro e w1 ⟨b, rfl, hU, hb1⟩
  have hrd : Rd w1 w1.heap.size (some ⟨b, 0, none⟩) (unL.map (Value.int .i64)) := Bk.rdl (l := unL.map (Value.int .i64)) hU
  have hC := mcost_any 1 (some ⟨b, 0, none⟩) 6 6 10 10 1 0 0 0 0 0 0 0 0 w1 (fun w' hb' => by
    have := xcheck_aff unL (some ⟨b, 0, none⟩) 6 6 10 10 w' rfl ((hrd.below hb').more hb'.size) sz1010
    rw [un_C5] at this
    exact this)
  rw [al44_wr, al44_ea] at hC
  clear hU hrd
  go_wp2_with fail
  refine hC.mono ?_
  rintro e w2 ⟨rfl, hb2⟩
  go_wp2_with fail
  go_returns
  exact ⟨rfl, hb1.trans (hb2.mono hb1.size)⟩
end Go.Proofs.YtlbiiljncacdoaaGreat
