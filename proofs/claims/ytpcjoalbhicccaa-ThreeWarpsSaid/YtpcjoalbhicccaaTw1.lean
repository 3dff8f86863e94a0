/- What is wrong with an image and slants, whatever they are. -/
import Derived.Test.YtpcjoalbhicccaaTh23
set_option linter.unusedVariables false
namespace Go.Proofs.Ytpcjoalbhicccaa
open Go.RowKit
def winX0 (p s ht : Int) : Int := loW p s 0 (ht - 1)
def winX1 (p s wd ht : Int) : Int := hiW p s 0 (ht - 1) + wd
def winY0 (p q r s wd ht : Int) : Int := loW q r (winX0 p s ht) (winX1 p s wd ht - 1)
def winY1 (p q r s wd ht : Int) : Int := hiW q r (winX0 p s ht) (winX1 p s wd ht - 1) + ht
/-- The first that is not 0. -/
def pick4 (z0 z1 z2 z3 f : Int) : Int := if z0 ≠ 0 then z0 else if z1 ≠ 0 then z1 else if z2 ≠ 0 then z2 else if z3 ≠ 0 then z3 else f
def ZerK (k : Nat) (z0 z1 z2 z3 : Int) : Prop := (1 ≤ k → z0 = 0) ∧ (2 ≤ k → z1 = 0) ∧ (3 ≤ k → z2 = 0) ∧ (4 ≤ k → z3 = 0)
def thrC (W H C : Int) (n n2 : Nat) (p q r s wd ht m : Int) : Int :=
  pick4 (checkC W H C n) (slC n2 p q r s) (fitsC wd ht 1) (modeC m) (if (largeB (winX0 p s ht) 0 (winX1 p s wd ht) ht || largeB (winX0 p s ht) (winY0 p q r s wd ht) (winX1 p s wd ht) (winY1 p q r s wd ht)) = true then 30 else 0)
set_option maxRecDepth 100000 in
set_option maxHeartbeats 4000000 in
theorem thr_any (W H C : Int) (A A2 : Option Addr) (n cp n2 c2 : Nat) (m a b c d p q r s wd ht : Int) (w : World) {B : Nat} (hC : n2 = 4 → C4 w B A2 p q r s) (hB : B ≤ w.heap.size) :
    Calls Try.prog 20 #[.agg #[.int .i64 W, .int .i64 H, .int .i64 C, .slice A n cp], .slice A2 n2 c2, .int .i64 wd, .int .i64 ht, bordV m a b c d] w fun e w' => e = .returned (.int .i64 (thrC W H C n n2 p q r s wd ht m)) ∧ Below w.heap.size w w' := by
  have hI := fun w' : World => icheck_any W H C A n cp w'
  have hS := fun (w' : World) (hC' : n2 = 4 → C4 w' B A2 p q r s) => scheck_any A2 n2 c2 p q r s w' hC'
  have hZ := fun w' : World => size_any wd ht w'
  have hBd := fun w' : World => bcheck_any m a b c d w'
  have hWn := fun (h4 : n2 = 4) (k : ¬ winBad 4 p q r s wd ht) (w' : World) (hC' : C4 w' B A2 p q r s) (hB' : B ≤ w'.heap.size) => win_ok A2 c2 p q r s wd ht (winX0 p s ht) (winX1 p s wd ht) (winY0 p q r s wd ht) (winY1 p q r s wd ht) w' hC' hB' k ⟨rfl, rfl, rfl, rfl⟩
  have HB := Lib.hid (show slC n2 p q r s = 0 → fitsC wd ht 1 = 0 → n2 = 4 ∧ ¬ winBad 4 p q r s wd ht from fun h1 h2 => by
    obtain ⟨_, k2, k3, k4, k5, _⟩ := fitsC_ok h2
    have h4 : n2 = 4 := by
      by_cases e : n2 = 4
      · exact e
      · unfold slC at h1; rw [if_pos e] at h1; cases h1
    subst h4
    refine ⟨rfl, ?_⟩
    unfold winBad
    omega)
  have hL1 := fun w' : World => large_any (winX0 p s ht) 0 (winX1 p s wd ht) ht w'
  have hL2 := fun w' : World => large_any (winX0 p s ht) (winY0 p q r s wd ht) (winX1 p s wd ht) (winY1 p q r s wd ht) w'
  have HT : Hid (thrC W H C n n2 p q r s wd ht m = pick4 (checkC W H C n) (slC n2 p q r s) (fitsC wd ht 1) (modeC m) (if (largeB (winX0 p s ht) 0 (winX1 p s wd ht) ht || largeB (winX0 p s ht) (winY0 p q r s wd ht) (winX1 p s wd ht) (winY1 p q r s wd ht)) = true then 30 else 0)) := rfl
  generalize thrC W H C n n2 p q r s wd ht m = tc at *
  generalize checkC W H C n = z0 at *
  generalize slC n2 p q r s = z1 at *
  generalize fitsC wd ht 1 = z2 at *
  generalize modeC m = z3 at *
  generalize largeB (winX0 p s ht) 0 (winX1 p s wd ht) ht = g1 at *
  generalize largeB (winX0 p s ht) (winY0 p q r s wd ht) (winX1 p s wd ht) (winY1 p q r s wd ht) = g2 at *
  generalize winX0 p s ht = X0 at *
  generalize winX1 p s wd ht = X1 at *
  generalize winY0 p q r s wd ht = Y0 at *
  generalize winY1 p q r s wd ht = Y1 at *
  go_enter Try.func20, Try.ntmps20
  go_upto_region 1 with fail
  have hbz : Below w.heap.size w ((w.alloc (.cells #[.int .i64 W, .int .i64 H, .int .i64 C, .slice A n cp] 24)).alloc (.cells #[.int .i64 m, .int .u8 a, .int .u8 b, .int .u8 c, .int .u8 d] 42)) := by go_grown
  have hKm := (Bk.new w 24 #[.int .i64 W, .int .i64 H, .int .i64 C, .slice A n cp]).alloc (.cells #[.int .i64 m, .int .u8 a, .int .u8 b, .int .u8 c, .int .u8 d] 42)
  have hKb := Bk.new (w.alloc (.cells #[.int .i64 W, .int .i64 H, .int .i64 C, .slice A n cp] 24)) 42 #[.int .i64 m, .int .u8 a, .int .u8 b, .int .u8 c, .int .u8 d]
  simp only [World.size_alloc] at hKb
  generalize (w.alloc (.cells #[.int .i64 W, .int .i64 H, .int .i64 C, .slice A n cp] 24)).alloc (.cells #[.int .i64 m, .int .u8 a, .int .u8 b, .int .u8 c, .int .u8 d] 42) = w2 at *
  have hC2 : n2 = 4 → C4 _ B A2 p q r s := fun h => (hC h).below hbz hB
  have hB2 := Nat.le_trans hB hbz.size
  obtain ⟨i0, i1, i2, i3⟩ := hKm.cell4
  obtain ⟨d0, d1, d2, d3, d4⟩ := bord_cells hKb
  have hl1 := hKm.lt
  have hl2 := hKb.lt
  go_cut [25, 26] (fun u v wx => u = .agg #[.int .i64 z0, .int .i64 z1, .int .i64 z2, .int .i64 z3] ∧ v = .int .i64 0 ∧ Below w2.heap.size w2 wx)
  case first =>
    go_region_held3 (fun w' => (w'.cell? ⟨w.heap.size, 0, none⟩ = some (.int .i64 W) ∧ w'.cell? ⟨w.heap.size, 1, none⟩ = some (.int .i64 H) ∧ w'.cell? ⟨w.heap.size, 2, none⟩ = some (.int .i64 C) ∧ w'.cell? ⟨w.heap.size, 3, none⟩ = some (.slice A n cp)) ∧ (w'.cell? ⟨w.heap.size + 1, 0, none⟩ = some (.int .i64 m) ∧ w'.cell? ⟨w.heap.size + 1, 1, none⟩ = some (.int .u8 a) ∧ w'.cell? ⟨w.heap.size + 1, 2, none⟩ = some (.int .u8 b) ∧ w'.cell? ⟨w.heap.size + 1, 3, none⟩ = some (.int .u8 c) ∧ w'.cell? ⟨w.heap.size + 1, 4, none⟩ = some (.int .u8 d)) ∧ Below w2.heap.size w2 w')
      (first
        | exact keepM i0 i1 i2 i3 hl1 d0 d1 d2 d3 d4 hl2 hbb
        | exact keepM i0 i1 i2 i3 hl1 d0 d1 d2 d3 d4 hl2 hba
        | (refine keepM i0 i1 i2 i3 hl1 d0 d1 d2 d3 d4 hl2 ?_; go_grown))
      (first
        | (go_at_call 40; (with_reducible refine (hI _).mono ?_); rintro e wa ⟨rfl, hba'⟩; have hba : Below w2.heap.size w2 wa := Below.trans (by first | exact hbb | go_grown) (hba'.mono (by first | exact hbb.size | exact Nat.le_refl _)))
        | (go_at_call 34; (with_reducible refine (hS _ (fun h => (hC2 h).below (by first | exact hbb | exact hba | go_grown) hB2)).mono ?_); rintro e w' ⟨rfl, rfl⟩)
        | (go_at_call 41; (with_reducible refine (hZ _).mono ?_); rintro e w' ⟨rfl, rfl⟩)
        | (go_at_call 42; (with_reducible refine (hBd _).mono ?_); rintro e wb ⟨rfl, hbb'⟩; have hbb : Below w2.heap.size w2 wb := Below.trans (by first | exact hba | go_grown) (hbb'.mono (by first | exact hba.size | exact Nat.le_refl _))))
    all_goals
      rename_i hHeld
      have hbx := hHeld.2.2
      clear hHeld
      go_wp2_with fail
      go_meet
      exact ⟨rfl, rfl, hbx⟩
  case rest =>
    obtain ⟨rfl, rfl, hbx⟩ := hcut
    have hC3 : n2 = 4 → C4 _ B A2 p q r s := fun h => (hC2 h).below hbx hB2
    have hbz3 := hbz.trans (hbx.mono hbz.size)
    clear i0 i1 i2 i3 d0 d1 d2 d3 d4 hKm hKb hl1 hl2 hbx hbz hC2
    have hB3 := Nat.le_trans hB hbz3.size
    generalize hwc : wc = w3 at *
    clear hwc
    go_wp2_with fail
    go_loopw [26] (fun kv wr => ∃ k : Nat, k ≤ 4 ∧ kv = .int .i64 k ∧ wr = w3 ∧ ZerK k z0 z1 z2 z3) (fun kv _ => 4 - (intOf kv).toNat)
    case atStart => exact ⟨0, by omega, rfl, rfl, by unfold ZerK; omega⟩
    case round =>
      obtain ⟨k, hk, rfl, rfl, hz⟩ := hrel
      have HZ := Lib.hid hz
      clear hz
      have hcases : k = 0 ∨ k = 1 ∨ k = 2 ∨ k = 3 ∨ k = 4 := by omega
      rcases hcases with rfl | rfl | rfl | rfl | rfl
      · by_cases h0 : z0 = 0
        · have HZ2 : Hid (ZerK 1 z0 z1 z2 z3) := by have := HZ.out; show ZerK _ _ _ _ _; unfold ZerK at *; omega
          have h0b : (z0 != 0) = false := by simpa using h0
          clear h0
          go_wp2_with fail
          exact ⟨⟨1, by omega, rfl, by first | rfl | trivial, HZ2.out⟩, by simp [intOf]⟩
        · have HR : Hid (tc = z0) := by have := HZ.out; show _ = _; rw [HT.out]; unfold ZerK at this; unfold pick4; repeat' split <;> omega
          have hne : (z0 != 0) = true := by simpa using h0
          clear h0
          go_wp2_with fail
          go_returns
          exact ⟨ret_int HR.out.symm, hbz3⟩
      · by_cases h0 : z1 = 0
        · have HZ2 : Hid (ZerK 2 z0 z1 z2 z3) := by have := HZ.out; show ZerK _ _ _ _ _; unfold ZerK at *; omega
          have h0b : (z1 != 0) = false := by simpa using h0
          clear h0
          go_wp2_with fail
          exact ⟨⟨2, by omega, rfl, by first | rfl | trivial, HZ2.out⟩, by simp [intOf]⟩
        · have HR : Hid (tc = z1) := by have := HZ.out; show _ = _; rw [HT.out]; unfold ZerK at this; unfold pick4; repeat' split <;> omega
          have hne : (z1 != 0) = true := by simpa using h0
          clear h0
          go_wp2_with fail
          go_returns
          exact ⟨ret_int HR.out.symm, hbz3⟩
      · by_cases h0 : z2 = 0
        · have HZ2 : Hid (ZerK 3 z0 z1 z2 z3) := by have := HZ.out; show ZerK _ _ _ _ _; unfold ZerK at *; omega
          have h0b : (z2 != 0) = false := by simpa using h0
          clear h0
          go_wp2_with fail
          exact ⟨⟨3, by omega, rfl, by first | rfl | trivial, HZ2.out⟩, by simp [intOf]⟩
        · have HR : Hid (tc = z2) := by have := HZ.out; show _ = _; rw [HT.out]; unfold ZerK at this; unfold pick4; repeat' split <;> omega
          have hne : (z2 != 0) = true := by simpa using h0
          clear h0
          go_wp2_with fail
          go_returns
          exact ⟨ret_int HR.out.symm, hbz3⟩
      · by_cases h0 : z3 = 0
        · have HZ2 : Hid (ZerK 4 z0 z1 z2 z3) := by have := HZ.out; show ZerK _ _ _ _ _; unfold ZerK at *; omega
          have h0b : (z3 != 0) = false := by simpa using h0
          clear h0
          go_wp2_with fail
          exact ⟨⟨4, by omega, rfl, by first | rfl | trivial, HZ2.out⟩, by simp [intOf]⟩
        · have HR : Hid (tc = z3) := by have := HZ.out; show _ = _; rw [HT.out]; unfold ZerK at this; unfold pick4; repeat' split <;> omega
          have hne : (z3 != 0) = true := by simpa using h0
          clear h0
          go_wp2_with fail
          go_returns
          exact ⟨ret_int HR.out.symm, hbz3⟩
      · have hz := HZ.out
        unfold ZerK at hz
        have e0 : z0 = 0 := by omega
        have e1 : z1 = 0 := by omega
        have e2 : z2 = 0 := by omega
        have e3 : z3 = 0 := by omega
        clear hz
        obtain ⟨h4, hnb⟩ := HB.out e1 e2
        have hW := hWn h4 hnb _ (hC3 h4) hB3
        have HR : Hid (tc = if (g1 || g2) = true then 30 else 0) := by show _ = _; rw [HT.out, e0, e1, e2, e3]; rfl
        subst h4
        clear e0 e1 e2 e3 HB hnb hWn
        go_wp2_with fail
        refine hW.mono ?_
        rintro e w4 ⟨rfl, hb4⟩
        have hbz4 := hbz3.trans (hb4.mono hbz3.size)
        have kA := (Bk.new w4 26 (rectA X0 0 X1 ht)).alloc (.cells (rectA X0 Y0 X1 Y1) 26)
        have kB := Bk.new (w4.alloc (.cells (rectA X0 0 X1 ht) 26)) 26 (rectA X0 Y0 X1 Y1)
        simp only [World.size_alloc] at kB
        have hbz5 := (hbz4.alloc hbz4.size (.cells (rectA X0 0 X1 ht) 26)).alloc (by have := hbz4.size; simp; omega) (.cells (rectA X0 Y0 X1 Y1) 26)
        cases g1
        · cases g2
          all_goals
            go_wp2_with (first
              | (refine ldRect rfl _ rfl kA rfl ?_)
              | (refine ldRect rfl _ rfl kB' rfl ?_)
              | (go_at_call 43; (with_reducible refine (hL1 _).mono ?_); rintro e w6 ⟨rfl, hb6⟩; have kB' := kB.nx hb6; obtain ⟨z0, z1, z2, z3⟩ := kB'.cell4; have hbz6 := hbz5.trans (hb6.mono hbz5.size))
              | (go_at_call 43; (with_reducible refine (hL2 _).mono ?_); rintro e w7 ⟨rfl, hb7⟩; have hbz7 := hbz6.trans (hb7.mono hbz6.size)))
            go_returns
            exact ⟨ret_int HR.out.symm, hbz7⟩
        · go_wp2_with (first
            | (refine ldRect rfl _ rfl kA rfl ?_)
            | (go_at_call 43; (with_reducible refine (hL1 _).mono ?_); rintro e w6 ⟨rfl, hb6⟩; have hbz6 := hbz5.trans (hb6.mono hbz5.size)))
          go_returns
          exact ⟨ret_int HR.out.symm, hbz6⟩
end Go.Proofs.Ytpcjoalbhicccaa
