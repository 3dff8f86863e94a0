/- bound: Exact, and how far off a lens and slants may be. -/
import Derived.Test.YtlbiiljncacdoaaGreatNP
import Derived.Test.YtlbiiljncacdoaaGreatLR
import Derived.Test.YtlbiiljncacdoaaGreatK8
import Derived.Test.YtlbiiljncacdoaaGreatK4
set_option linter.unusedVariables false
namespace Go.Proofs.YtlbiiljncacdoaaGreat
open Go.RowKit
attribute [local go_sem high] run_maxL
def exB (k : Int) : Bool := decide (k = 1 ∨ k = 2 ∨ k = 4 ∨ k = 6)
def ixB (k : Int) : Int := if k = 1 then 0 else if k = 2 then 1 else if k = 4 then 2 else if k = 6 then 3 else -1
set_option maxRecDepth 100000 in
set_option maxHeartbeats 4000000 in
theorem ix4_any (k : Int) (g : Nat) (w : World) (hK : Bk w g 3 #[.int .i64 1, .int .i64 2, .int .i64 4, .int .i64 6]) :
    Calls Tryz.prog 161 #[.slice (some ⟨g, 0, none⟩) 4 4, .int .i64 k] w fun e w' => e = .returned (.int .i64 (ixB k)) ∧ w = w' := by
  obtain ⟨c0, c1, c2, c3⟩ := hK.cell4
  clear hK
  have h1 : k = 1 → Hid (ixB k = 0) := fun h => by show _ = _; unfold ixB; rw [if_pos h]
  have h2 : k ≠ 1 → k = 2 → Hid (ixB k = 1) := fun h h' => by show _ = _; unfold ixB; rw [if_neg h, if_pos h']
  have h3 : k ≠ 1 → k ≠ 2 → k = 4 → Hid (ixB k = 2) := fun h h' h'' => by show _ = _; unfold ixB; rw [if_neg h, if_neg h', if_pos h'']
  have h4 : k ≠ 1 → k ≠ 2 → k ≠ 4 → k = 6 → Hid (ixB k = 3) := fun h h' h'' h3 => by show _ = _; unfold ixB; rw [if_neg h, if_neg h', if_neg h'', if_pos h3]
  have h5 : k ≠ 1 → k ≠ 2 → k ≠ 4 → k ≠ 6 → Hid (ixB k = -1) := fun h h' h'' h3 => by show _ = _; unfold ixB; rw [if_neg h, if_neg h', if_neg h'', if_neg h3]
  generalize ixB k = z at *
  replace h1 := Lib.hid h1
  replace h2 := Lib.hid h2
  replace h3 := Lib.hid h3
  replace h4 := Lib.hid h4
  replace h5 := Lib.hid h5
  go_enter Tryz.func161, Tryz.ntmps161
  go_wp2_with fail
  go_loopw [8] (fun i wr => ∃ j : Nat, j ≤ 4 ∧ i = .int .i64 j ∧ w = wr ∧ Hid ((0 < j → k ≠ 1) ∧ (1 < j → k ≠ 2) ∧ (2 < j → k ≠ 4) ∧ (3 < j → k ≠ 6))) (fun i _ => 4 - (intOf i).toNat)
  case atStart => exact ⟨0, by omega, rfl, rfl, ⟨by omega, by omega, by omega, by omega⟩⟩
  case round =>
    obtain ⟨j, hj, rfl, rfl, hH⟩ := hrel
    rcases (show j = 0 ∨ j = 1 ∨ j = 2 ∨ j = 3 ∨ j = 4 by omega) with rfl | rfl | rfl | rfl | rfl
    · by_cases hk : k = 1
      · have hz := h1.out hk
        have hb : (k == 1) = true := by simp [hk]
        clear hk
        go_wp2_with fail
        go_returns
        exact ⟨by rw [hz.out]; rfl, by first | rfl | trivial⟩
      · have hb : (k == 1) = false := by simp [hk]
        have hk := Lib.hid hk
        go_wp2_with fail
        exact ⟨⟨1, by omega, by go_num, by first | rfl | trivial, ⟨fun _ => hk.out, by omega, by omega, by omega⟩⟩, by simp [intOf]⟩
    · by_cases hk : k = 2
      · have hz := h2.out (hH.out.1 (by omega)) hk
        have hb : (k == 2) = true := by simp [hk]
        clear hk
        go_wp2_with fail
        go_returns
        exact ⟨by rw [hz.out]; rfl, by first | rfl | trivial⟩
      · have hb : (k == 2) = false := by simp [hk]
        have hk := Lib.hid hk
        go_wp2_with fail
        exact ⟨⟨2, by omega, by go_num, by first | rfl | trivial, ⟨fun _ => hH.out.1 (by omega), fun _ => hk.out, by omega, by omega⟩⟩, by simp [intOf]⟩
    · by_cases hk : k = 4
      · have hz := h3.out (hH.out.1 (by omega)) (hH.out.2.1 (by omega)) hk
        have hb : (k == 4) = true := by simp [hk]
        clear hk
        go_wp2_with fail
        go_returns
        exact ⟨by rw [hz.out]; rfl, by first | rfl | trivial⟩
      · have hb : (k == 4) = false := by simp [hk]
        have hk := Lib.hid hk
        go_wp2_with fail
        exact ⟨⟨3, by omega, by go_num, by first | rfl | trivial, ⟨fun _ => hH.out.1 (by omega), fun _ => hH.out.2.1 (by omega), fun _ => hk.out, by omega⟩⟩, by simp [intOf]⟩
    · by_cases hk : k = 6
      · have hz := h4.out (hH.out.1 (by omega)) (hH.out.2.1 (by omega)) (hH.out.2.2.1 (by omega)) hk
        have hb : (k == 6) = true := by simp [hk]
        clear hk
        go_wp2_with fail
        go_returns
        exact ⟨by rw [hz.out]; rfl, by first | rfl | trivial⟩
      · have hb : (k == 6) = false := by simp [hk]
        have hk := Lib.hid hk
        go_wp2_with fail
        exact ⟨⟨4, by omega, by go_num, by first | rfl | trivial, ⟨fun _ => hH.out.1 (by omega), fun _ => hH.out.2.1 (by omega), fun _ => hH.out.2.2.1 (by omega), fun _ => hk.out⟩⟩, by simp [intOf]⟩
    · have hz := h5.out (hH.out.1 (by omega)) (hH.out.2.1 (by omega)) (hH.out.2.2.1 (by omega)) (hH.out.2.2.2 (by omega))
      go_wp2_with fail
      go_returns
      exact ⟨by rw [hz.out]; rfl, by first | rfl | trivial⟩
theorem ix_nn (k : Int) : decide (0 ≤ ixB k) = exB k := by
  unfold ixB exB
  by_cases h1 : k = 1
  · simp [h1]
  by_cases h2 : k = 2
  · simp [h2]
  by_cases h3 : k = 4
  · simp [h3]
  by_cases h4 : k = 6
  · simp [h4]
  simp [h1, h2, h3, h4]
theorem con4_any (k : Int) (g : Nat) (w : World) (hK : Bk w g 3 #[.int .i64 1, .int .i64 2, .int .i64 4, .int .i64 6]) :
    Calls Tryz.prog 98 #[.slice (some ⟨g, 0, none⟩) 4 4, .int .i64 k] w fun e w' => e = .returned (.bool (exB k)) ∧ w = w' := by
  have hI := ix4_any k g w hK
  have hb := ix_nn k
  generalize ixB k = z at *
  generalize exB k = b at *
  replace hb := Lib.hid hb
  go_enter Tryz.func98, Tryz.ntmps98
  go_wp2_with (first
    | (go_at_call 161; (with_reducible refine hI.mono ?_); rintro e w1 ⟨rfl, rfl⟩))
  go_returns
  exact ⟨by rw [← hb.out]; rfl, rfl⟩
theorem exact_any (k : Int) (w : World) : Calls Tryz.prog 41 #[.int .i64 k] w fun e w' => e = .returned (.bool (exB k)) ∧ Below w.heap.size w w' := by
  have hb := (Below.refl w.heap.size w).alloc (Nat.le_refl _) (.cells #[.int .i64 1, .int .i64 2, .int .i64 4, .int .i64 6] 3)
  have hC := con4_any k w.heap.size _ (Bk.new w 3 #[.int .i64 1, .int .i64 2, .int .i64 4, .int .i64 6])
  generalize exB k = b at *
  go_enter Tryz.func41, Tryz.ntmps41
  go_wp2_with (first
    | (go_at_call 98; (with_reducible refine hC.mono ?_); rintro e w1 ⟨rfl, rfl⟩))
  go_returns
  exact ⟨rfl, hb⟩
end Go.Proofs.YtlbiiljncacdoaaGreat
