/- sample: images as a source: Levels, Channels, Size, Read. -/
import Derived.Test.YthgcfahacoonaaaGreatSS4
set_option linter.unusedVariables false
namespace Go.Proofs.YthgcfahacoonaaaGreat
open Go.RowKit
theorem Rd.dropk {w : World} {B b o : Nat} {xs : List Value} (h : Rd w B (some ⟨b, o, none⟩) xs) (k : Nat) : Rd w B (some ⟨b, o + k, none⟩) (xs.drop k) := fun i hi => by
  have hi' : k + i < xs.length := by simp at hi; omega
  obtain ⟨b', o', e, hb, hc⟩ := h (k + i) hi'
  injection e with e; injection e with e1 e2
  subst e1; subst e2
  exact ⟨b, o + k, rfl, hb, by rw [show o + k + i = o + (k + i) by omega, hc]; simp⟩
theorem channels_any {ims : List Im} {A : Option Addr} {n c lo : Nat} {w : World} (hn : ims.length = n) (hA : ImsAt w lo A ims) (h0 : 0 < n) : Calls Tryz.prog 273 #[.slice A n c] w fun e w' => e = .returned (.int .i64 (im0 ims).C) ∧ w = w' := by
  have hC0 : (im0 ims).C = ims[0].C := by
    cases ims with
    | nil => simp at hn; omega
    | cons a r => rfl
  obtain ⟨b, o, A0, c0, rfl, _, hbw, _, _, hz2, _⟩ := hA.get 0 (show 0 < ims.length by omega)
  rw [← hC0, show o + 0 * 4 + 2 = o + 2 by omega] at hz2
  clear hC0
  generalize (im0 ims).C = C0 at *
  have hn0 : (0 : Int) < (n : Int) := by omega
  have HN := Lib.hid hn
  go_enter Tryz.func273, Tryz.ntmps273
  go_wp2_with fail
  go_returns
  exact ⟨rfl, rfl⟩
theorem size_out (k : Int) (A : Option Addr) (n c : Nat) (w : World) (h : k < 0 ∨ (n : Int) ≤ k) : Calls Tryz.prog 276 #[.slice A n c, .int .i64 k] w fun e w' => e = .returned (.tuple #[.int .i64 0, .int .i64 0]) ∧ w = w' := by
  rcases (show k < 0 ∨ (0 ≤ k ∧ (n : Int) ≤ k) by omega) with h1 | ⟨h1, h2⟩
  all_goals
    clear h
    go_enter Tryz.func276, Tryz.ntmps276
    go_wp2_with fail
    go_returns
    exact ⟨rfl, rfl⟩
theorem size_in {ims : List Im} {A : Option Addr} {n c lo : Nat} {w : World} (hn : ims.length = n) (hA : ImsAt w lo A ims) (k : Nat) (hk : k < ims.length) : Calls Tryz.prog 276 #[.slice A n c, .int .i64 (k : Nat)] w fun e w' => e = .returned (.tuple #[.int .i64 ims[k].W, .int .i64 ims[k].H]) ∧ ∃ q, w' = w.drewN q := by
  obtain ⟨b, o, Ai, ci, rfl, _, hbw, q0, q1, _⟩ := hA.get k hk
  have hkn : (k : Int) < (n : Int) := by omega
  generalize ims[k] = m at *
  clear hn
  go_enter Tryz.func276, Tryz.ntmps276
  go_wp2_with fail
  go_quiet ((fail))
  go_wp2_with fail
  go_returns
  exact ⟨rfl, _, rfl⟩
theorem read_far (k x y : Int) (A : Option Addr) (n c : Nat) (w : World) (h : k < 0 ∨ (n : Int) ≤ k) : Calls Tryz.prog 275 #[.slice A n c, .int .i64 k, .int .i64 x, .int .i64 y] w fun e w' => e = .returned (.slice none 0 0) ∧ w = w' := by
  have hS := size_out k A n c w h
  clear h
  rcases (show x < 0 ∨ 0 ≤ x by omega) with h1 | h1
  all_goals
    go_enter Tryz.func275, Tryz.ntmps275
    go_wp2_with (go_at_call 276; (with_reducible refine hS.mono ?_); rintro e w1 ⟨rfl, rfl⟩)
    go_returns
    exact ⟨rfl, rfl⟩
theorem read_out {ims : List Im} {A : Option Addr} {n c lo : Nat} {w : World} (hn : ims.length = n) (hA : ImsAt w lo A ims) (k : Nat) (hk : k < ims.length) (x y : Int) (h : x < 0 ∨ ims[k].W ≤ x ∨ y < 0 ∨ ims[k].H ≤ y) :
    Calls Tryz.prog 275 #[.slice A n c, .int .i64 (k : Nat), .int .i64 x, .int .i64 y] w fun e w' => e = .returned (.slice none 0 0) ∧ Below w.heap.size w w' := by
  have hS := size_in (c := c) hn hA k hk
  generalize ims[k] = m at *
  clear hA hk hn
  rcases (show x < 0 ∨ (0 ≤ x ∧ m.W ≤ x) ∨ (0 ≤ x ∧ x < m.W ∧ y < 0) ∨ (0 ≤ x ∧ x < m.W ∧ 0 ≤ y ∧ m.H ≤ y) by omega) with h1 | ⟨h1, h2⟩ | ⟨h1, h2, h3⟩ | ⟨h1, h2, h3, h4⟩
  all_goals
    clear h
    go_enter Tryz.func275, Tryz.ntmps275
    go_wp2_with (go_at_call 276; (with_reducible refine hS.mono ?_); rintro e w1 ⟨rfl, q, rfl⟩)
    go_returns
    exact ⟨rfl, below_drewN (Below.refl _ _) q⟩
theorem ck_parts {W H C : Int} {n : Nat} (h : checkC W H C n = 0) : fitsC W H C = 0 ∧ (n : Int) = W * H * C := by
  unfold checkC at h
  split at h
  · omega
  · rename_i h1
    refine ⟨h, ?_⟩
    by_cases h2 : (n : Int) = W * H * C
    · exact h2
    · exact absurd ⟨h, h2⟩ h1
/-- Where a pixel's bytes stand. -/
theorem at_bd {W H C x y : Int} (hC : 1 ≤ C ∧ C ≤ 4) (hW : 1 ≤ W ∧ W ≤ 32768) (hH : 1 ≤ H ∧ H ≤ 32768) (hx : 0 ≤ x ∧ x < W) (hy : 0 ≤ y ∧ y < H) :
    (0 ≤ y * W ∧ y * W ≤ 1073741824) ∧ (0 ≤ y * W + x ∧ y * W + x ≤ 1073774592) ∧ (0 ≤ (y * W + x) * C ∧ (y * W + x) * C ≤ 4295098368) ∧ (y * W + x) * C + C ≤ W * H * C := by
  have e1 : 0 ≤ y * W := Int.mul_nonneg (by omega) (by omega)
  have e2 : y * W ≤ (H - 1) * W := Int.mul_le_mul_of_nonneg_right (by omega) (by omega)
  have e3 : (H - 1) * W ≤ 32767 * W := Int.mul_le_mul_of_nonneg_right (by omega) (by omega)
  have e4 : y * W + x + 1 ≤ W * H := by rw [Int.sub_mul, Int.one_mul, Int.mul_comm H W] at e2; omega
  have e5 : (y * W + x + 1) * C ≤ W * H * C := Int.mul_le_mul_of_nonneg_right e4 (by omega)
  rw [Int.add_mul, Int.one_mul] at e5
  have e6 : 0 ≤ (y * W + x) * C := Int.mul_nonneg (by omega) (by omega)
  have e7 : (y * W + x) * C ≤ (y * W + x) * 4 := Int.mul_le_mul_of_nonneg_left (by omega) (by omega)
  refine ⟨⟨e1, by omega⟩, ⟨by omega, by omega⟩, ⟨e6, by omega⟩, by omega⟩
/-- A pixel's bytes. -/
def pxB (m : Im) (x y : Int) : List Int := (m.px.drop ((y * m.W + x) * m.C).toNat).take m.C.toNat
set_option maxRecDepth 100000 in
set_option maxHeartbeats 4000000 in
theorem read_in {ims : List Im} {A : Option Addr} {n c lo : Nat} {w : World} (hn : ims.length = n) (hA : ImsAt w lo A ims) (k : Nat) (hk : k < ims.length) (x y : Int) (hck : checkC ims[k].W ims[k].H ims[k].C ims[k].px.length = 0) (hx : 0 ≤ x ∧ x < ims[k].W) (hy : 0 ≤ y ∧ y < ims[k].H) :
    Calls Tryz.prog 275 #[.slice A n c, .int .i64 (k : Nat), .int .i64 x, .int .i64 y] w (OwnU (pxB ims[k] x y) w) := by
  have hS := size_in (c := c) hn hA k hk
  obtain ⟨b, o, Ai, ci, rfl, _, hbw, q0, q1, q2, q3, hci, hri⟩ := hA.get k hk
  have hkn : (k : Int) < (n : Int) := by omega
  unfold pxB
  generalize ims[k] = m at *
  obtain ⟨W, H, C, px⟩ := m
  simp only at *
  obtain ⟨hf, hl⟩ := ck_parts hck
  obtain ⟨hc, hw1, hw2, hh1, hh2, hp⟩ := fitsC_ok hf
  obtain ⟨⟨a1, a2⟩, ⟨a3, a4⟩, ⟨a5, a6⟩, a7⟩ := at_bd (C := C) (by omega) ⟨hw1, hw2⟩ ⟨hh1, hh2⟩ hx hy
  have hpx : px.length ≤ 16777216 := by have := mul3_bd W H C (by have := Int.mul_nonneg (show 0 ≤ W by omega) (show 0 ≤ H by omega); omega) hp (by omega) (by omega); omega
  have h99 : ∃ (z : Int) (q Cn : Nat), (y * W + x) * C = z ∧ z.toNat = q ∧ C.toNat = Cn ∧ (z + C).toNat = q + Cn ∧ q + Cn ≤ px.length ∧ 0 ≤ z ∧ z ≤ 4295098368 ∧ 1 ≤ Cn ∧ Cn ≤ 4 := ⟨_, _, _, rfl, rfl, rfl, by omega, by omega, by omega, by omega, by omega, by omega⟩
  obtain ⟨z, at0, Cn, hat, et, et2, et3, hle, hz0, hz1, hC1, hC4⟩ := h99
  have hbo : ∃ b2 o2, Ai = some ⟨b2, o2, none⟩ := by
    obtain ⟨b2, o2, e, _⟩ := hri.rd.get 0 (by simp; omega)
    exact ⟨b2, o2, e⟩
  obtain ⟨b2, o2, rfl⟩ := hbo
  have hr2 : Rd w w.heap.size (some ⟨b2, o2 + at0, none⟩) (((px.drop at0).take Cn).map (Value.int .u8)) := by
    rw [List.map_take, List.map_drop]
    exact (hri.rd.dropk at0).take Cn
  have hCl := fun nq => cloneu_any ((px.drop at0).take Cn) (some ⟨b2, o2 + at0, none⟩) Cn (ci - at0) (w.drewN nq) (by simp; omega) (by omega) (hr2.drewN nq) (Nat.le_refl _)
  have v1 : wrap64 (y * W) = y * W := IntWalk.wrap64_in _ ⟨by omega, by omega⟩
  have v2 : wrap64 (y * W + x) = y * W + x := IntWalk.wrap64_in _ ⟨by omega, by omega⟩
  have v3 : wrap64 ((y * W + x) * C) = z := by rw [hat]; exact IntWalk.wrap64_in _ ⟨by omega, by omega⟩
  have v4 : wrap64 (z + C) = z + C := IntWalk.wrap64_in _ ⟨by omega, by omega⟩
  rw [hat, et, et2]
  obtain ⟨hx1, hx2⟩ := hx
  obtain ⟨hy1, hy2⟩ := hy
  have hac : at0 + Cn ≤ ci := by omega
  have hzc : 0 ≤ z + C := by omega
  have hq0 : at0 + Cn - at0 = Cn := by omega
  clear hat hck hf hl hc hp hA hri hr2 q0 q1 hle a1 a2 a3 a4 a5 a6 a7 hpx
  have HN := Lib.hid hn
  clear hn
  go_enter Tryz.func275, Tryz.ntmps275
  go_upto_region 6 with (go_at_call 276; (with_reducible refine hS.mono ?_); rintro e w1 ⟨rfl, q, rfl⟩)
  clear v1 v2 hS
  have hif : (ci = at0) = False := by simp; omega
  go_wp2_with (go_at_call 22; go_loud (with_reducible refine (hCl _).mono ?_); rintro e w4 ⟨s4, rfl, ho4, hb4⟩)
  go_returns
  exact ⟨_, rfl, ho4, (below_drewN (Below.refl w.heap.size w) q).trans hb4⟩
end Go.Proofs.YthgcfahacoonaaaGreat
