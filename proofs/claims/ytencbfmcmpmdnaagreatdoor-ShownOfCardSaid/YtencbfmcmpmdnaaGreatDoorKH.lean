/- Several texts in one: The reference's xform: what is wrong with a transform. The reference's xform: where a place comes from. -/
import Derived.Test.YtencbfmcmpmdnaaGreatDoorKG
import Derived.Test.YtencbfmcmpmdnaaGreatDoorN3
import Derived.Test.YtencbfmcmpmdnaaGreatDoorKF
import Derived.Test.YtencbfmcmpmdnaaGreatDoorK8
import Derived.Test.YtencbfmcmpmdnaaGreatDoorK4
import Derived.Test.YtencbfmcmpmdnaaGreatDoorK7
section
set_option linter.unusedVariables false
namespace Go.Proofs.YtencbfmcmpmdnaaGreatDoor
open Go.RowKit
set_option maxRecDepth 100000 in
set_option maxHeartbeats 16000000 in
theorem rcheck24 (k : Int) (l : List Int) (A : Option Addr) (n cp : Nat) (W H : Int) (w : World) {B : Nat} (hl : l.length = n) (hn : n ≤ 9223372036854775807) (hr : Rd w B A (l.map (Value.int .i64))) (hB : B ≤ w.heap.size) (hok : ∀ z ∈ l, -9223372036854775808 ≤ z ∧ z ≤ 9223372036854775807) :
    Calls Tryz.prog 14 #[xfV k A n cp, .int .i64 W, .int .i64 H] w fun e w' => e = .returned (.int .i64 (xC k l W H)) ∧ Below w.heap.size w w' := by
  have hb := (Below.refl w.heap.size w).alloc (Nat.le_refl _) (.cells #[.int .i64 k, .slice A n cp] 24)
  have hBs := hb.size
  have hrx := hr.below' hb hB
  have hok' := Lib.hid hok
  by_cases hk : 1 ≤ k ∧ k ≤ 6
  · rcases sz_cases W H with ⟨hs, s0, s1, s2, s3⟩ | ⟨hs, hc⟩
    · have hC : Hid (xC k l W H = xkC k l W H) := by show _ = _; unfold xC; rw [if_neg (by simpa using hk), if_neg (by rw [hs]; simp)]
      have h18 := rcheck18 l A n cp _ hl hrx
      have h19 := rcheck_any l A n cp W H _ hl hrx (Nat.le_trans hB hBs) hok ⟨by omega, by omega⟩ ⟨by omega, by omega⟩
      have h20 := rcheck20 l A n cp W H _ hl hrx (Nat.le_trans hB hBs)
      have h21 := rcheck21 l A n cp W H _ hl hn hrx (Nat.le_trans hB hBs)
      have h22 := rcheck22 l A n cp _ hl hrx
      have h23 := (tcheck_any l A n cp _ hl hrx).2
      clear hs hok hr hrx hl
      rcases (show k = 1 ∨ k = 2 ∨ k = 3 ∨ k = 4 ∨ k = 5 ∨ k = 6 by omega) with rfl | rfl | rfl | rfl | rfl | rfl
      · go_enter Tryz.func14, Tryz.ntmps14
        go_wp2_with (go_at_call 20; (with_reducible refine h18.mono ?_); rintro e w1 ⟨rfl, hb1⟩)
        go_returns
        exact ⟨ret_int hC.out.symm, hb.trans (hb1.mono hBs)⟩
      · go_enter Tryz.func14, Tryz.ntmps14
        go_wp2_with (go_at_call 21; (with_reducible refine h19.mono ?_); rintro e w1 ⟨rfl, hb1⟩)
        go_returns
        exact ⟨ret_int hC.out.symm, hb.trans (hb1.mono hBs)⟩
      · go_enter Tryz.func14, Tryz.ntmps14
        go_wp2_with (go_at_call 22; (with_reducible refine h20.mono ?_); rintro e w1 ⟨rfl, hb1⟩)
        go_returns
        exact ⟨ret_int hC.out.symm, hb.trans (hb1.mono hBs)⟩
      · go_enter Tryz.func14, Tryz.ntmps14
        go_wp2_with (go_at_call 23; (with_reducible refine h21.mono ?_); rintro e w1 ⟨rfl, hb1⟩)
        go_returns
        exact ⟨ret_int hC.out.symm, hb.trans (hb1.mono hBs)⟩
      · go_enter Tryz.func14, Tryz.ntmps14
        go_wp2_with (go_at_call 24; (with_reducible refine h22.mono ?_); rintro e w1 ⟨rfl, rfl⟩)
        go_returns
        exact ⟨ret_int hC.out.symm, hb⟩
      · go_enter Tryz.func14, Tryz.ntmps14
        go_wp2_with (go_at_call 25; (with_reducible refine h23.mono ?_); rintro e w1 ⟨rfl, rfl⟩)
        go_returns
        exact ⟨ret_int hC.out.symm, hb⟩
    · have hC : Hid (xC k l W H = 30) := by show _ = _; unfold xC; rw [if_neg (by simpa using hk), if_pos hs]
      clear hs hok hr hrx hl
      obtain ⟨k1, k2⟩ := hk
      rcases hc with q0 | ⟨q0, q1⟩ | ⟨q0, q1, q2⟩ | ⟨q0, q1, q2, q3⟩
      all_goals
        go_enter Tryz.func14, Tryz.ntmps14
        go_wp2_with fail
        go_returns
        exact ⟨ret_int hC.out.symm, hb⟩
  · have hC : Hid (xC k l W H = 10) := by show _ = _; unfold xC; rw [if_pos hk]
    clear hok hr hrx hl
    rcases (show k < 1 ∨ (1 ≤ k ∧ 6 < k) by omega) with k1 | ⟨k1, k2⟩
    all_goals
      clear hk
      go_enter Tryz.func14, Tryz.ntmps14
      go_wp2_with fail
      go_returns
      exact ⟨ret_int hC.out.symm, hb⟩
end Go.Proofs.YtencbfmcmpmdnaaGreatDoor
end
section
set_option linter.unusedVariables false
namespace Go.Proofs.YtencbfmcmpmdnaaGreatDoor
open Go.RowKit
theorem xC_zero {k : Int} {l : List Int} {W H : Int} (h : xC k l W H = 0) : (1 ≤ k ∧ k ≤ 6) ∧ szH W H = true ∧ xkC k l W H = 0 := by
  unfold xC at h
  by_cases hk : 1 ≤ k ∧ k ≤ 6
  · rw [if_neg (by simpa using hk)] at h
    cases hs : szH W H
    · rw [hs, if_pos rfl] at h; cases h
    · rw [hs, if_neg (by decide)] at h; exact ⟨hk, rfl, h⟩
  · rw [if_pos hk] at h; cases h
theorem x_no {k : Int} {l : List Int} {px py d : Int} (hk : 1 ≤ k ∧ k ≤ 6) (h : rightH px py d = false) : xF k l px py d = 0 ∧ xG k l px py d = 0 ∧ xE k l px py d = 11 := by
  rcases (show k = 1 ∨ k = 2 ∨ k = 3 ∨ k = 4 ∨ k = 5 ∨ k = 6 by omega) with rfl | rfl | rfl | rfl | rfl | rfl
  · exact ⟨by show afX l px py d = 0; unfold afX; simp [h], by show afY l px py d = 0; unfold afY; simp [h], by show afE px py d = 11; unfold afE; simp [h]⟩
  · exact ⟨by show atX _ px py d = 0; unfold atX; simp [h], by show atY _ px py d = 0; unfold atY; simp [h], by show atE _ px py d = 11; unfold atE; simp [h]⟩
  · exact ⟨by show lnF l px py d = 0; unfold lnF leIs; simp [h], by show lnG l px py d = 0; unfold lnG leIs; simp [h], by show lnE l px py d = 11; unfold lnE leIs; simp [h]⟩
  · exact ⟨by show meU l px py d = 0; unfold meU; simp [h], by show meVv l px py d = 0; unfold meVv; simp [h], by show meE px py d = 11; unfold meE; simp [h]⟩
  · exact ⟨by show shF l px py d = 0; unfold shF; simp [h], by show shG l px py d = 0; unfold shG; simp [h], by show afE px py d = 11; unfold afE; simp [h]⟩
  · exact ⟨by show tuF l px py d = 0; unfold tuF; simp [h], by show tuG l px py d = 0; unfold tuG; simp [h], by show afE px py d = 11; unfold afE; simp [h]⟩
end Go.Proofs.YtencbfmcmpmdnaaGreatDoor
end
