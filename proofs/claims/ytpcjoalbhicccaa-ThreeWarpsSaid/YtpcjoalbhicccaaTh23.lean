/- Nothing is wrong: what is right can be turned. -/
import Derived.Test.YtpcjoalbhicccaaTh22
set_option linter.unusedVariables false
namespace Go.Proofs.Ytpcjoalbhicccaa
open Go.RowKit
theorem keepM {w w' : World} {B g g' : Nat} {x y z u v0 v1 v2 v3 v4 : Value} (h1 : w.cell? ⟨g, 0, none⟩ = some x) (h2 : w.cell? ⟨g, 1, none⟩ = some y) (h3 : w.cell? ⟨g, 2, none⟩ = some z) (h4 : w.cell? ⟨g, 3, none⟩ = some u) (hg : g < B)
    (k0 : w.cell? ⟨g', 0, none⟩ = some v0) (k1 : w.cell? ⟨g', 1, none⟩ = some v1) (k2 : w.cell? ⟨g', 2, none⟩ = some v2) (k3 : w.cell? ⟨g', 3, none⟩ = some v3) (k4 : w.cell? ⟨g', 4, none⟩ = some v4) (hg' : g' < B) (h : Below B w w') :
    (w'.cell? ⟨g, 0, none⟩ = some x ∧ w'.cell? ⟨g, 1, none⟩ = some y ∧ w'.cell? ⟨g, 2, none⟩ = some z ∧ w'.cell? ⟨g, 3, none⟩ = some u) ∧ (w'.cell? ⟨g', 0, none⟩ = some v0 ∧ w'.cell? ⟨g', 1, none⟩ = some v1 ∧ w'.cell? ⟨g', 2, none⟩ = some v2 ∧ w'.cell? ⟨g', 3, none⟩ = some v3 ∧ w'.cell? ⟨g', 4, none⟩ = some v4) ∧ Below B w w' :=
  ⟨⟨(h.cell (by exact hg)).trans h1, (h.cell (by exact hg)).trans h2, (h.cell (by exact hg)).trans h3, (h.cell (by exact hg)).trans h4⟩, ⟨(h.cell (by exact hg')).trans k0, (h.cell (by exact hg')).trans k1, (h.cell (by exact hg')).trans k2, (h.cell (by exact hg')).trans k3, (h.cell (by exact hg')).trans k4⟩, h⟩
/-- all is right. -/
structure ThrOk (W H : Int) (C : Nat) (n : Nat) (m p q r s w h X0 X1 Y0 Y1 : Int) : Prop where
  chk : checkC W H C n = 0
  sl : slC 4 p q r s = 0
  fit : fitsC w h 1 = 0
  md : modeC m = 0
  win : Win p q r s w h X0 X1 Y0 Y1
  l1 : largeB X0 0 X1 h = false
  l2 : largeB X0 Y0 X1 Y1 = false
theorem ThrOk.nbad {W H : Int} {C n : Nat} {m p q r s w h X0 X1 Y0 Y1 : Int} (k : ThrOk W H C n m p q r s w h X0 X1 Y0 Y1) : ¬ winBad 4 p q r s w h := by
  have h1 := k.sl
  obtain ⟨_, h2, h3, h4, h5, _⟩ := fitsC_ok k.fit
  unfold winBad
  omega
set_option maxRecDepth 100000 in
set_option maxHeartbeats 4000000 in
theorem thr_ok (W H : Int) (C : Nat) (A A2 : Option Addr) (n cp c2 : Nat) (m a b c d p q r s wd ht X0 X1 Y0 Y1 : Int) (w : World) {B : Nat} (hC : C4 w B A2 p q r s) (hB : B ≤ w.heap.size) (k : ThrOk W H C n m p q r s wd ht X0 X1 Y0 Y1) :
    Calls Try.prog 20 #[imgV W H C A n cp, .slice A2 4 c2, .int .i64 wd, .int .i64 ht, bordV m a b c d] w fun e w' => e = .returned (.int .i64 0) ∧ Below w.heap.size w w' := by
  have hI := fun w' : World => (icheck_any W H C A n cp w').mono (R' := fun e w'' => e = .returned (.int .i64 0) ∧ Below w'.heap.size w' w'') fun e w'' ⟨h1, h2⟩ => ⟨by rw [h1, k.chk], h2⟩
  have hS := fun (w' : World) (hC' : C4 w' B A2 p q r s) => (scheck_any A2 4 c2 p q r s w' (fun _ => hC')).mono (R' := fun e w'' => e = .returned (.int .i64 0) ∧ w' = w'') fun e w'' ⟨h1, h2⟩ => ⟨by rw [h1, k.sl], h2⟩
  have hZ := fun w' : World => (size_any wd ht w').mono (R' := fun e w'' => e = .returned (.int .i64 0) ∧ w' = w'') fun e w'' ⟨h1, h2⟩ => ⟨by rw [h1, k.fit], h2⟩
  have hBd := fun w' : World => (bcheck_any m a b c d w').mono (R' := fun e w'' => e = .returned (.int .i64 0) ∧ Below w'.heap.size w' w'') fun e w'' ⟨h1, h2⟩ => ⟨by rw [h1, k.md], h2⟩
  have hWn := fun (w' : World) (hC' : C4 w' B A2 p q r s) (hB' : B ≤ w'.heap.size) => win_ok A2 c2 p q r s wd ht X0 X1 Y0 Y1 w' hC' hB' k.nbad k.win
  have hL1 := fun w' : World => (large_any X0 0 X1 ht w').mono (R' := fun e w'' => e = .returned (.bool false) ∧ Below w'.heap.size w' w'') fun e w'' ⟨h1, h2⟩ => ⟨by rw [h1, k.l1], h2⟩
  have hL2 := fun w' : World => (large_any X0 Y0 X1 Y1 w').mono (R' := fun e w'' => e = .returned (.bool false) ∧ Below w'.heap.size w' w'') fun e w'' ⟨h1, h2⟩ => ⟨by rw [h1, k.l2], h2⟩
  clear k
  go_enter Try.func20, Try.ntmps20
  go_upto_region 1 with fail
  have hbz : Below w.heap.size w ((w.alloc (.cells #[.int .i64 W, .int .i64 H, .int .i64 C, .slice A n cp] 24)).alloc (.cells #[.int .i64 m, .int .u8 a, .int .u8 b, .int .u8 c, .int .u8 d] 42)) := by go_grown
  have hKm := (Bk.new w 24 #[.int .i64 W, .int .i64 H, .int .i64 C, .slice A n cp]).alloc (.cells #[.int .i64 m, .int .u8 a, .int .u8 b, .int .u8 c, .int .u8 d] 42)
  have hKb := Bk.new (w.alloc (.cells #[.int .i64 W, .int .i64 H, .int .i64 C, .slice A n cp] 24)) 42 #[.int .i64 m, .int .u8 a, .int .u8 b, .int .u8 c, .int .u8 d]
  simp only [World.size_alloc] at hKb
  generalize (w.alloc (.cells #[.int .i64 W, .int .i64 H, .int .i64 C, .slice A n cp] 24)).alloc (.cells #[.int .i64 m, .int .u8 a, .int .u8 b, .int .u8 c, .int .u8 d] 42) = w2 at *
  have hC2 := hC.below hbz hB
  have hB2 := Nat.le_trans hB hbz.size
  obtain ⟨i0, i1, i2, i3⟩ := hKm.cell4
  obtain ⟨d0, d1, d2, d3, d4⟩ := bord_cells hKb
  have hl1 := hKm.lt
  have hl2 := hKb.lt
  go_cut [25, 26] (fun u v wx => u = .agg #[.int .i64 0, .int .i64 0, .int .i64 0, .int .i64 0] ∧ v = .int .i64 0 ∧ Below w2.heap.size w2 wx)
  case first =>
    go_region_held3 (fun w' => (w'.cell? ⟨w.heap.size, 0, none⟩ = some (.int .i64 W) ∧ w'.cell? ⟨w.heap.size, 1, none⟩ = some (.int .i64 H) ∧ w'.cell? ⟨w.heap.size, 2, none⟩ = some (.int .i64 C) ∧ w'.cell? ⟨w.heap.size, 3, none⟩ = some (.slice A n cp)) ∧ (w'.cell? ⟨w.heap.size + 1, 0, none⟩ = some (.int .i64 m) ∧ w'.cell? ⟨w.heap.size + 1, 1, none⟩ = some (.int .u8 a) ∧ w'.cell? ⟨w.heap.size + 1, 2, none⟩ = some (.int .u8 b) ∧ w'.cell? ⟨w.heap.size + 1, 3, none⟩ = some (.int .u8 c) ∧ w'.cell? ⟨w.heap.size + 1, 4, none⟩ = some (.int .u8 d)) ∧ Below w2.heap.size w2 w')
      (first
        | exact keepM i0 i1 i2 i3 hl1 d0 d1 d2 d3 d4 hl2 hbb
        | exact keepM i0 i1 i2 i3 hl1 d0 d1 d2 d3 d4 hl2 hba
        | (refine keepM i0 i1 i2 i3 hl1 d0 d1 d2 d3 d4 hl2 ?_; go_grown))
      (first
        | (go_at_call 40; (with_reducible refine (hI _).mono ?_); rintro e wa ⟨rfl, hba'⟩; have hba : Below w2.heap.size w2 wa := Below.trans (by first | exact hbb | go_grown) (hba'.mono (by first | exact hbb.size | exact Nat.le_refl _)))
        | (go_at_call 34; (with_reducible refine (hS _ (hC2.below (by first | exact hbb | exact hba | go_grown) hB2)).mono ?_); rintro e w' ⟨rfl, rfl⟩)
        | (go_at_call 41; (with_reducible refine (hZ _).mono ?_); rintro e w' ⟨rfl, rfl⟩)
        | (go_at_call 42; (with_reducible refine (hBd _).mono ?_); rintro e wb ⟨rfl, hbb'⟩; have hbb : Below w2.heap.size w2 wb := Below.trans (by first | exact hba | go_grown) (hbb'.mono (by first | exact hba.size | exact Nat.le_refl _))))
    all_goals
      rename_i hHeld
      have hbx := hHeld.2.2
      clear hHeld
      go_wp2_with fail
      go_meet
      exact ⟨rfl, rfl, hbx⟩
  case rest =>
    obtain ⟨rfl, rfl, hbx⟩ := hcut
    have hC3 := hC2.below hbx hB2
    have hbz3 := hbz.trans (hbx.mono hbz.size)
    clear i0 i1 i2 i3 d0 d1 d2 d3 d4 hKm hKb hl1 hl2 hbx hbz hC2
    have hB3 := Nat.le_trans hB hbz3.size
    generalize hwc : wc = w3 at *
    clear hwc
    go_wp2_with fail
    go_loopw [26] (fun kv wr => ∃ k : Nat, k ≤ 4 ∧ kv = .int .i64 k ∧ wr = w3) (fun kv _ => 4 - (intOf kv).toNat)
    case atStart => exact ⟨0, by omega, rfl, rfl⟩
    case round =>
      obtain ⟨k, hk, rfl, rfl⟩ := hrel
      have hcases : k = 0 ∨ k = 1 ∨ k = 2 ∨ k = 3 ∨ k = 4 := by omega
      rcases hcases with rfl | rfl | rfl | rfl | rfl
      · go_wp2_with fail
        exact ⟨⟨1, by omega, rfl, by first | rfl | trivial⟩, by simp [intOf]⟩
      · go_wp2_with fail
        exact ⟨⟨2, by omega, rfl, by first | rfl | trivial⟩, by simp [intOf]⟩
      · go_wp2_with fail
        exact ⟨⟨3, by omega, rfl, by first | rfl | trivial⟩, by simp [intOf]⟩
      · go_wp2_with fail
        exact ⟨⟨4, by omega, rfl, by first | rfl | trivial⟩, by simp [intOf]⟩
      · go_wp2_with fail
        refine (hWn _ hC3 hB3).mono ?_
        rintro e w4 ⟨rfl, hb4⟩
        have hbz4 := hbz3.trans (hb4.mono hbz3.size)
        have kA := (Bk.new w4 26 (rectA X0 0 X1 ht)).alloc (.cells (rectA X0 Y0 X1 Y1) 26)
        have kB := Bk.new (w4.alloc (.cells (rectA X0 0 X1 ht) 26)) 26 (rectA X0 Y0 X1 Y1)
        simp only [World.size_alloc] at kB
        have hbz5 := (hbz4.alloc hbz4.size (.cells (rectA X0 0 X1 ht) 26)).alloc (by have := hbz4.size; simp; omega) (.cells (rectA X0 Y0 X1 Y1) 26)
        go_wp2_with (first
          | (refine ldRect rfl _ rfl kA rfl ?_)
          | (refine ldRect rfl _ rfl kB' rfl ?_)
          | (go_at_call 43; (with_reducible refine (hL1 _).mono ?_); rintro e w6 ⟨rfl, hb6⟩; have kB' := kB.nx hb6; obtain ⟨z0, z1, z2, z3⟩ := kB'.cell4; have hbz6 := hbz5.trans (hb6.mono hbz5.size))
          | (go_at_call 43; (with_reducible refine (hL2 _).mono ?_); rintro e w7 ⟨rfl, hb7⟩; have hbz7 := hbz6.trans (hb7.mono hbz6.size)))
        go_returns
        exact ⟨rfl, hbz7⟩
end Go.Proofs.Ytpcjoalbhicccaa
