/- The law XformAsks. -/
import Derived.Test.YtlbiiljncacdoaaGreatXQ
import Derived.Test.YtlbiiljncacdoaaGreatOX
import Derived.Test.YtlbiiljncacdoaaGreatKG
import Derived.Test.YtlbiiljncacdoaaGreatKI
set_option linter.unusedVariables false
namespace Go.Proofs.YtlbiiljncacdoaaGreat
open Go.RowKit
theorem lawXformAsks (cs0 cs1 : Array Value) (A2 : Option Addr) (m cp2 : Nat) (w : World) (h0 : Rv Tryz.prog w 31 cs0.toList) (h1 : Rv Tryz.prog w 22 cs1.toList) (h2 : Rv Tryz.prog w 43 [.slice A2 m cp2]) :
    Calls Tryz.prog 4 #[.agg cs0, .agg cs1, .slice A2 m cp2] w fun e w' => e = .returned (.bool true) ∧ Below w.heap.size w w' := by
  obtain ⟨k, A, n, cp, l, e0, _, hl, hn, hcm, hok, hr⟩ := open_xform h0
  obtain rfl : cs0 = #[.int .i64 k, .slice A n cp] := by cases cs0; simp at e0; simp [e0]
  obtain ⟨W, H, rfl, hW, hH⟩ := open_size h1
  obtain ⟨hm, _, f, hf, hp⟩ := open_places h2
  have hn63 : n ≤ 9223372036854775807 := by simp [maxLen] at hcm; omega
  exact walkXformAsks k l A A2 n cp m cp2 W H f (xC k l W H) (xF k l) (xG k l) (xE k l) w hl hr hp hf
    (fun _ A' cp' w1 h1 h2 h3 => newMp_any k l A' n cp' W H w1 hl h1 h2 h3)
    (fun _ w' hb => newMp_any k l A n cp W H w' hl hn hcm ((hr.below hb).more hb.size))
    (fun _ w' hb => rcheck24 k l A n cp W H w' hl hn63 (hr.below hb) hb.size hok)
    (fun hz w' x y d _ hb => rat24 k l A n cp W H x y d w' hl (hr.below hb) hb.size hz)
    alive24
end Go.Proofs.YtlbiiljncacdoaaGreat
