/- The law BoxHolds. -/
import Derived.Test.YtlbiiljncacdoaaGreatBQ1
import Derived.Test.YtlbiiljncacdoaaGreatBQ2
import Derived.Test.YtlbiiljncacdoaaGreatBQ3
set_option linter.unusedVariables false
namespace Go.Proofs.YtlbiiljncacdoaaGreat
open Go.RowKit
theorem lawBoxHolds (cs0 cs1 cs2 : Array Value) (w : World) (h0 : Rv Tryz.prog w 31 cs0.toList) (h1 : Rv Tryz.prog w 80 cs1.toList) (h2 : Rv Tryz.prog w 78 cs2.toList) :
    Calls Tryz.prog 10 #[.agg cs0, .agg cs1, .agg cs2] w fun e w' => e = .returned (.bool true) ∧ Below w.heap.size w w' := by
  obtain ⟨k, A, sn, cp, l, e0, _, hl, hn, hcm, hok, hr⟩ := open_xform h0
  obtain rfl : cs0 = #[.int .i64 k, .slice A sn cp] := by cases cs0; simp at e0; simp [e0]
  obtain ⟨W, H, a, b, c, d, n, e1⟩ := open_part h1
  obtain rfl : cs1 = ptA W H a b c d n := Array.toList_inj.1 e1
  obtain ⟨e, f, g, h, e2⟩ := open_rect4 h2
  obtain rfl : cs2 = rc_rectA e f g h := by cases cs2; simp at e2; simp [e2]
  obtain ⟨⟨p, q, r, s⟩, hB⟩ : ∃ z, bothR e f g h a b c d = z := ⟨_, rfl⟩
  have hr' := fun (w' : World) (hb : Below w.heap.size w w') => ((hr.below hb).more hb.size : Rd w' w'.heap.size A (l.map (Value.int .i64)))
  exact walkBoxHolds k A sn cp W H a b c d n e f g h p q r s (bxC (xC k l W H) a b c d W H n) (bxC (xC k l W H) p q r s W H n) (xC k l W H) (xF k l) (xG k l) (xE k l) (BxQ k l a b c d n) (BxQ k l p q r s n) w
    (fun _ hz w' hb => bof_bad k A sn cp W H a b c d n (xC k l W H) _ _ _ w' (newIs_any k l A sn cp W H w' hl hn hcm (hr' w' hb)) hz)
    (fun _ hz w' hb => bof_ok k l A sn cp W H a b c d n w' (bxOk hz) hl hn hcm (hr' w' hb))
    (fun _ w' hb => newIs_any k l A sn cp W H w hl hn hcm hr w' hb)
    (fun hz => (bxOk hz).x)
    (fun hz => by
      have h := bxOk hz
      obtain ⟨⟨hW, hH⟩, hac, hbd⟩ := h.rg
      have := h.c0
      have := h.d0
      exact ⟨h.n0, ⟨h.a0, hac, by omega⟩, h.b0, hbd, by omega⟩)
    (fun hz u v s t X Y hQ hS => ⟨bxQ_has (bxOk hz) hQ hS, ((bxOk hz).bd X Y hS).1⟩)
    (fun hz w' => by
      have := rboth_any e f g h a b c d w' (bxOk hz).e ⟨(bxOk hz).a0, (bxOk hz).b0⟩
      rw [hB] at this
      exact this)
    (fun _ hz w' hb => bof_bad k A sn cp W H p q r s n (xC k l W H) _ _ _ w' (newIs_any k l A sn cp W H w' hl hn hcm (hr' w' hb)) hz)
    (fun _ hz w' hb => bof_ok k l A sn cp W H p q r s n w' (bxOk hz) hl hn hcm (hr' w' hb))
    (fun hz hz2 u v s' t u' v' s'' t' hQ hQ2 => by
      obtain ⟨i1, i2, i3, i4⟩ := both_in hB (bxOk hz2).e
      exact bxQ_sub (bxOk hz) hQ hQ2 i1 i2 i3 i4)
    alive37
end Go.Proofs.YtlbiiljncacdoaaGreat
