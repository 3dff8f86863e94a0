/- The chapter's example. -/
import Derived.Test.YtpcjoalbhicccaaTh24
import Derived.Test.YtpcjoalbhicccaaTh9
set_option linter.unusedVariables false
namespace Go.Proofs.Ytpcjoalbhicccaa
open Go.RowKit
theorem lg21 : largeB 0 0 2 1 = false := by decide +kernel
theorem alive_thr : ThrOk 2 1 1 2 0 0 0 0 0 2 1 0 2 0 1 where
  chk := by decide
  sl := by decide
  fit := by decide
  md := by decide
  win := ⟨by decide, by decide, by decide, by decide⟩
  l1 := lg21
  l2 := lg21
theorem alive_c1 : canC 2 1 1 2 0 0 2 1 0 0 0 0 0 2 1 = 0 := by decide +kernel
theorem alive_o1 : ∀ t ∈ plsP 0 0 2 1, hasB 0 0 2 1 t.1.1 (t.1.2 + mv 0 0 t.1.1) = true := by decide +kernel
theorem alive_o2 : ∀ t ∈ plsP 0 0 2 1, hasB 0 0 2 1 (t.1.1 + mv 0 0 t.1.2) t.1.2 = true := by decide +kernel
theorem alive_out : outP (outP (p1B [7, 8] 2 1 1 0 0 0 0 0 0 0 0 0 2 1) 0 0 2 1 (fun t => (t.1.1, t.1.2 + mv 0 0 t.1.1)) (plsP 0 0 2 1)) 0 0 2 1 (fun t => (t.1.1 + mv 0 0 t.1.2, t.1.2)) (plsP 0 0 2 1) = [7, 8] := by decide +kernel
theorem warp_alive (A A2 : Option Addr) (w3 : World) (hr : Rd w3 w3.heap.size A ([7, 8].map (Value.int .u8))) (hC : C4 w3 w3.heap.size A2 0 0 0 0) :
    Calls Try.prog 18 #[.agg #[.int .i64 2, .int .i64 1, .int .i64 1, .slice A 2 2], .slice A2 4 4, .int .i64 2, .int .i64 1, bordV 0 0 0 0 0] w3 fun e w' =>
      ∃ v, e = .returned (.tuple #[.agg #[.int .i64 2, .int .i64 1, .int .i64 1, v], .int .i64 0]) ∧ w'.ownsRow w3.heap.size 5 1 v 2 ([7, 8].map (Value.int .u8)) ∧ Below w3.heap.size w3 w' :=
  (warp_ok 2 1 1 A A2 2 2 4 [7, 8] 0 0 0 0 0 0 0 0 0 0 2 0 1 2 1 2 1 w3 hC (Nat.le_refl _) alive_thr rfl hr (Nat.le_refl _) rfl rfl (by decide) (by decide) (by decide) (by decide) alive_c1 alive_o1 alive_c1 alive_o2).mono fun e w4 ⟨v, h1, h2, h3⟩ =>
    ⟨v, h1, by rw [← alive_out]; exact h2, h3⟩
set_option maxRecDepth 100000 in
set_option maxHeartbeats 2000000 in
theorem alive_any (w : World) : Calls Try.prog 13 #[] w fun e w' => e = .returned (.bool true) ∧ Below w.heap.size w w' := by
  obtain ⟨k0, k1, k2, hbz, hs3⟩ := allocs3 w #[.int .u8 7, .int .u8 8] #[.int .i64 2, .int .i64 1, .int .i64 1, .slice (some ⟨w.heap.size, 0, none⟩) 2 2] #[.int .i64 0, .int .i64 0, .int .i64 0, .int .i64 0] 5 24 2
  go_enter Try.func13, Try.ntmps13
  go_wp2_with fail
  generalize ((w.alloc (.cells #[.int .u8 7, .int .u8 8] 5)).alloc (.cells #[.int .i64 2, .int .i64 1, .int .i64 1, .slice (some ⟨w.heap.size, 0, none⟩) 2 2] 24)).alloc (.cells #[.int .i64 0, .int .i64 0, .int .i64 0, .int .i64 0] 2) = w3 at *
  have hr : Rd w3 w3.heap.size (some ⟨w.heap.size, 0, none⟩) ([7, 8].map (Value.int .u8)) := fun k hk => by
    refine ⟨w.heap.size, 0, rfl, k0.lt, ?_⟩
    rw [k0.cell]
    have h2 : k = 0 ∨ k = 1 := by simp at hk; omega
    rcases h2 with rfl | rfl <;> rfl
  have hC : C4 w3 w3.heap.size (some ⟨w.heap.size + 1 + 1, 0, none⟩) 0 0 0 0 := by
    obtain ⟨e0, e1, e2, e3⟩ := k2.cell4
    exact ⟨_, 0, rfl, k2.lt, e0, e1, e2, e3⟩
  refine (warp_alive _ _ w3 hr hC).mono ?_
  rintro e w4 ⟨v, rfl, hown, hb4⟩
  obtain ⟨A9, c9, rfl, _, _, hR9, _⟩ := own_form hown
  have k14 := k1.nx hb4
  have hz4 := hb4.size
  have kN := Bk.new w4 24 #[.int .i64 2, .int .i64 1, .int .i64 1, .slice A9 2 c9]
  have k15 := k14.alloc (.cells #[.int .i64 2, .int .i64 1, .int .i64 1, .slice A9 2 c9] 24)
  have hbz4 := (hbz.trans (hb4.mono (by omega))).alloc (by omega) (.cells #[.int .i64 2, .int .i64 1, .int .i64 1, .slice A9 2 c9] 24)
  have hR1 := (hR9.alloc (Nat.le_refl _) (.cells #[.int .i64 2, .int .i64 1, .int .i64 1, .slice A9 2 c9] 24)).more (show w4.heap.size ≤ (w4.alloc (.cells #[.int .i64 2, .int .i64 1, .int .i64 1, .slice A9 2 c9] 24)).heap.size by simp)
  have hR2 := ((hr.below hb4).more hz4).alloc (Nat.le_refl _) (.cells #[.int .i64 2, .int .i64 1, .int .i64 1, .slice A9 2 c9] 24)
  have hR2' := hR2.more (show w4.heap.size ≤ (w4.alloc (.cells #[.int .i64 2, .int .i64 1, .int .i64 1, .slice A9 2 c9] 24)).heap.size by simp)
  obtain ⟨m0, m1, m2, m3⟩ := k15.cell4
  obtain ⟨n0, n1, n2, n3⟩ := kN.cell4
  have hSame := same_yes 2 1 1 A9 (some ⟨w.heap.size, 0, none⟩) 2 c9 2 ([7, 8].map (Value.int .u8)) _ hR1 hR2' rfl (by intro v hv; simp at hv; rcases hv with rfl | rfl <;> exact ⟨_, rfl⟩) (by decide)
  go_wp2_with (go_at_call 12; (with_reducible refine hSame.mono ?_); rintro e w5 ⟨rfl, hb5⟩)
  go_returns
  exact ⟨rfl, hbz4.trans (hb5.mono hbz4.size)⟩
end Go.Proofs.Ytpcjoalbhicccaa
