/- The law ShownOf, of any argument as the row reads it. -/
import Derived.Test.YtencbfmcmpmdnaaGreatDoorSH8
import Derived.Test.YtencbfmcmpmdnaaGreatDoorKH
set_option linter.unusedVariables false
namespace Go.Proofs.YtencbfmcmpmdnaaGreatDoor
open Go.RowKit
theorem lawShownOf (cs : Array Value) (w : World) (h0 : Rv Tryz.prog w 29 cs.toList) :
    Calls Tryz.prog 3 #[.agg cs] w fun e w' => e = .returned (.bool true) ∧ Below w.heap.size w w' := by
  obtain ⟨k, A, n, cp, l, W, H, kn, s, mo, c0, c1, c2, c3, mi, e0, hl, hn, hcm, hok, hr⟩ := open_warp h0
  obtain rfl : cs = wrA k A n cp W H kn s mo c0 c1 c2 c3 mi := Array.toList_inj.1 e0
  have hn63 : n ≤ 9223372036854775807 := by simp [maxLen] at hcm; omega
  exact walkShownOf k A n cp l W H kn s mo c0 c1 c2 c3 mi (wrC W H kn s mo mi (xC k l W H)) w hl hr
    (fun _ w' hb => mwarp_any k A n cp W H kn s mo c0 c1 c2 c3 mi (xC k l W H) w' (fun w'' hb' => xcheck_any k A n cp W H _ _ _ _ w'' ((newIs_any k l A n cp W H w hl hn hcm hr).nx (hb.trans (hb'.mono hb.size)))))
    (fun _ w' hb => rwarp_any k A n cp W H kn s mo c0 c1 c2 c3 mi (xC k l W H) w' (fun w'' hb' => rcheck24 k l A n cp W H w'' hl hn63 (hr.below (hb.trans (hb'.mono hb.size))) (hb.trans (hb'.mono hb.size)).size hok))
end Go.Proofs.YtencbfmcmpmdnaaGreatDoor
