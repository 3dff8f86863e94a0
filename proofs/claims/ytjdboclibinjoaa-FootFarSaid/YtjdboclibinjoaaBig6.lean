/- The reference's numbers of any length: quotients, rounded down. -/
import Derived.Test.YtjdboclibinjoaaBig5
set_option linter.unusedVariables false
namespace Go.Proofs.Ytjdboclibinjoaa
open Go.RowKit
/-- The memory in a function of two numbers: both numbers' variables, and the result's. -/
def TwoW (w wr : World) (s s' : Bool) (A A' : Option Addr) (n n' c c' : Nat) : Prop :=
  Bk wr w.heap.size 150 #[.bool s, .slice A n c] ∧ Bk wr (w.heap.size + 1) 150 #[.bool s', .slice A' n' c'] ∧ Bk wr (w.heap.size + 1 + 1) 150 #[.bool false, .slice none 0 0] ∧ Below w.heap.size w wr
section
variable {w wr wr' : World} {s s' : Bool} {A A' : Option Addr} {n n' c c' : Nat}
theorem TwoW.nx (h : TwoW w wr s s' A A' n n' c c') (hb : Below wr.heap.size wr wr') : TwoW w wr' s s' A A' n n' c c' :=
  ⟨h.1.nx hb, h.2.1.nx hb, h.2.2.1.nx hb, h.2.2.2.trans (hb.mono (by have := h.2.2.1.lt; omega))⟩
theorem TwoW.drew (h : TwoW w wr s s' A A' n n' c c') : TwoW w wr.drew s s' A A' n n' c c' := ⟨h.1.drew, h.2.1.drew, h.2.2.1.drew, h.2.2.2.drew⟩
theorem TwoW.drewN (h : TwoW w wr s s' A A' n n' c c') (k : Nat) : TwoW w (wr.drewN k) s s' A A' n n' c c' := ⟨h.1.drewN k, h.2.1.drewN k, h.2.2.1.drewN k, below_drewN h.2.2.2 k⟩
theorem TwoW.alloc (h : TwoW w wr s s' A A' n n' c c') (o : Obj) : TwoW w (wr.alloc o) s s' A A' n n' c c' := h.nx ((Below.refl _ _).alloc (Nat.le_refl _) o)
theorem TwoW.start (w : World) (s s' : Bool) (A A' : Option Addr) (n n' c c' : Nat) :
    TwoW w (((w.alloc (.cells #[.bool s, .slice A n c] 150)).alloc (.cells #[.bool s', .slice A' n' c'] 150)).alloc (.cells #[.bool false, .slice none 0 0] 150)) s s' A A' n n' c c' := by
  refine ⟨((Bk.new w _ _).alloc _).alloc _, ?_, ?_, by go_grown⟩
  · simpa using (Bk.new (w.alloc (.cells #[.bool s, .slice A n c] 150)) 150 #[.bool s', .slice A' n' c']).alloc _
  · simpa using Bk.new ((w.alloc (.cells #[.bool s, .slice A n c] 150)).alloc (.cells #[.bool s', .slice A' n' c'] 150)) 150 #[.bool false, .slice none 0 0]
end
set_option maxRecDepth 100000 in
set_option maxHeartbeats 1000000 in
theorem floor_short (va vb : Value) (x y : Int) (w : World) {lo lo' : Nat} (ha : BigN lo w va x) (hb : BigN lo' w vb y) (hy : y ≠ 0) (hsa : (x.natAbs : Int) < Bp 4) (hsb : (y.natAbs : Int) < Bp 4) :
    Calls Try.prog 108 #[va, vb] w fun e w' => ∃ v, e = .returned v ∧ BigN w.heap.size w' v (flo x y) ∧ Below w.heap.size w w' := by
  have hB := Bp4
  rw [hB] at hsa hsb
  obtain ⟨A, c, l, rfl, h2, h3, h4, h5, h6, h7⟩ := id ha
  obtain ⟨A', c', l', rfl, h2', h3', h4', h5', h6', h7'⟩ := id hb
  have hl : l.length ≤ 4 := norm_len h6 (by rw [h7, hB]; exact hsa)
  have hl' : l'.length ≤ 4 := norm_len h6' (by rw [h7', hB]; exact hsb)
  clear h2 h3 h4 h5 h6 h7 h2' h3' h4' h5' h6' h7' hB
  generalize l.length = n at *
  generalize l'.length = n' at *
  have hy0 : Hid (y ≠ 0) := hy
  have hxa : (x.natAbs : Int) ≤ 18446744073709551615 := by omega
  have hya : (y.natAbs : Int) ≤ 18446744073709551615 := by omega
  have HXA := Lib.hid hxa
  have HYA := Lib.hid hya
  clear hy hsa hsb hxa hya
  have hT := TwoW.start w (decide (x < 0)) (decide (y < 0)) A A' n n' c c'
  generalize decide (x < 0) = s at *
  generalize decide (y < 0) = s' at *
  have ha1 := ha.nx hT.2.2.2
  have hb1 := hb.nx hT.2.2.2
  have hl2 := hT.2.2.1.lt
  go_enter Try.func108, Try.ntmps108
  go_wp2_with (first
    | (go_at_call 146; (with_reducible refine (short_any _ _ x y _ ha1 hb1 hy0.out HXA.out HYA.out).mono ?_); rintro e w1 ⟨v1, rfl, hN1, hb2⟩; obtain ⟨s1, A1, n1, c1, rfl⟩ := hN1.shape; have hT1 := hT.nx hb2)
    | (refine stBig rfl _ _ rfl hT1.2.2.1 rfl rfl rfl ?_; intro w6 hK6 hg6 hs6))
  refine bodyPost_ret (res_big rfl hK6 rfl) rfl ?_
  have hz := hb2.size
  exact ⟨_, rfl, (hN1.grown hg6 (.inl (by omega))).less (by omega), below_of_gb hT1.2.2.2 hg6 (by omega) (by omega)⟩
end Go.Proofs.Ytjdboclibinjoaa
