/- The walk of the law ThreeWindows. -/
import Derived.Test.YtpcjoalbhicccaaTh25
import Derived.Test.YtpcjoalbhicccaaOpen
set_option linter.unusedVariables false
namespace Go.Proofs.Ytpcjoalbhicccaa
open Go.RowKit
theorem mvs2 {b c x y : Int} (hb : bdI 262144 b) (hc : bdI 32768 c) (hx : bdI 32768 x) (hy : bdI 32768 y) : bdI 262145 (loW b c x y) ∧ bdI 262145 (hiW b c x y) := mvs hb hc hx hy
theorem keepV {w w' : World} {B g g' b gr : Nat} {x y z u v0 v1 v2 v3 p0 p1 p2 p3 r0 : Value}
    (h1 : w.cell? ⟨g, 0, none⟩ = some x ∧ w.cell? ⟨g, 1, none⟩ = some y ∧ w.cell? ⟨g, 2, none⟩ = some z ∧ w.cell? ⟨g, 3, none⟩ = some u) (hg : g < B)
    (k : w.cell? ⟨g', 0, none⟩ = some v0 ∧ w.cell? ⟨g', 1, none⟩ = some v1 ∧ w.cell? ⟨g', 2, none⟩ = some v2 ∧ w.cell? ⟨g', 3, none⟩ = some v3) (hg' : g' < B)
    (c : w.cell? ⟨b, 0, none⟩ = some p0 ∧ w.cell? ⟨b, 1, none⟩ = some p1 ∧ w.cell? ⟨b, 2, none⟩ = some p2 ∧ w.cell? ⟨b, 3, none⟩ = some p3) (hb : b < B)
    (r : w.cell? ⟨gr, 0, none⟩ = some r0) (hr : gr < B) (h : Below B w w') :
    (w'.cell? ⟨g, 0, none⟩ = some x ∧ w'.cell? ⟨g, 1, none⟩ = some y ∧ w'.cell? ⟨g, 2, none⟩ = some z ∧ w'.cell? ⟨g, 3, none⟩ = some u) ∧ (w'.cell? ⟨g', 0, none⟩ = some v0 ∧ w'.cell? ⟨g', 1, none⟩ = some v1 ∧ w'.cell? ⟨g', 2, none⟩ = some v2 ∧ w'.cell? ⟨g', 3, none⟩ = some v3) ∧ (w'.cell? ⟨b, 0, none⟩ = some p0 ∧ w'.cell? ⟨b, 1, none⟩ = some p1 ∧ w'.cell? ⟨b, 2, none⟩ = some p2 ∧ w'.cell? ⟨b, 3, none⟩ = some p3) ∧ w'.cell? ⟨gr, 0, none⟩ = some r0 ∧ Below B w w' :=
  ⟨⟨(h.cell (by exact hg)).trans h1.1, (h.cell (by exact hg)).trans h1.2.1, (h.cell (by exact hg)).trans h1.2.2.1, (h.cell (by exact hg)).trans h1.2.2.2⟩,
   ⟨(h.cell (by exact hg')).trans k.1, (h.cell (by exact hg')).trans k.2.1, (h.cell (by exact hg')).trans k.2.2.1, (h.cell (by exact hg')).trans k.2.2.2⟩,
   ⟨(h.cell (by exact hb)).trans c.1, (h.cell (by exact hb)).trans c.2.1, (h.cell (by exact hb)).trans c.2.2.1, (h.cell (by exact hb)).trans c.2.2.2⟩, (h.cell (by exact hr)).trans r, h⟩
set_option maxRecDepth 100000 in
set_option maxHeartbeats 4000000 in
theorem walkThreeWindows (l : List Int) (A : Option Addr) (n cp : Nat) (W H m a b c d : Int) (w : World) (hn : l.length = n) (h : Rd w w.heap.size A (l.map (Value.int .i64))) :
    Calls Try.prog 4 #[.agg #[.slice A n cp, .int .i64 W, .int .i64 H, .int .i64 m, .int .u8 a, .int .u8 b, .int .u8 c, .int .u8 d]] w fun e w' => e = .returned (.bool true) ∧ Below w.heap.size w w' := by
  have hK := Bk.new w 44 #[.slice A n cp, .int .i64 W, .int .i64 H, .int .i64 m, .int .u8 a, .int .u8 b, .int .u8 c, .int .u8 d]
  have hbz := (Below.refl w.heap.size w).alloc (Nat.le_refl _) (.cells #[.slice A n cp, .int .i64 W, .int .i64 H, .int .i64 m, .int .u8 a, .int .u8 b, .int .u8 c, .int .u8 d] 44)
  by_cases hbig : 60 < n
  · go_enter Try.func4, Try.ntmps4
    go_wp2
    go_returns
    exact ⟨rfl, by go_grown⟩
  · have hc4 : n = 4 → C4 w w.heap.size A (l.getD 0 0) (l.getD 1 0) (l.getD 2 0) (l.getD 3 0) := fun e => Rd.c4 (by omega) h
    generalize l.getD 0 0 = p at *
    generalize l.getD 1 0 = q at *
    generalize l.getD 2 0 = r at *
    generalize l.getD 3 0 = s at *
    clear h hn
    go_enter Try.func4, Try.ntmps4
    go_wp2_with fail
    by_cases hbad : winBad n p q r s W H
    · refine (win_bad A n cp p q r s W H _ (B := w.heap.size) (fun e => (hc4 e).below hbz (Nat.le_refl _)) (by simp) hbad).mono ?_
      rintro e w2 ⟨rfl, hb2⟩
      have hbz2 := hbz.trans (hb2.mono (by simp))
      replace hK := hK.nx hb2
      clear hb2 hbz
      have hK3 := (Bk.new w2 26 (rectA 0 0 0 0)).alloc (.cells (rectA 0 0 0 0) 26)
      have hK4 := Bk.new (w2.alloc (.cells (rectA 0 0 0 0) 26)) 26 (rectA 0 0 0 0)
      have hK' := (hK.alloc (.cells (rectA 0 0 0 0) 26)).alloc (.cells (rectA 0 0 0 0) 26)
      have hbz3 := (hbz2.alloc hbz2.size (.cells (rectA 0 0 0 0) 26)).alloc (by have := hbz2.size; simp; omega) (.cells (rectA 0 0 0 0) 26)
      obtain ⟨e0, e1, e2, e3, e4, e5, e6, e7⟩ := can_cells hK'
      have hl2 := hK.lt
      have HBAD := Lib.hid hbad
      clear hbad
      by_cases h0 : slC n p q r s = 0
      all_goals
        first
          | (have hb0 : (slC n p q r s != 0) = false := by simpa using h0)
          | (have hb0 : (slC n p q r s != 0) = true := by simpa using h0)
        have H0 := Lib.hid h0
        clear h0
        go_wp2_with (go_at_call 15; (with_reducible refine (rcheck22_any A n cp p q r s _ (B := w.heap.size) (by intro e; exact (hc4 e).below hbz3 (Nat.le_refl _))).mono ?_); rintro e w' ⟨rfl, rfl⟩)
        all_goals
          first
            | (exfalso; have h1 := HBAD.out; have h2 := H0.out; unfold winBad at h1; omega)
            | (refine (alive_any _).mono ?_; rintro e w9 ⟨rfl, hb9⟩; go_wp2_with fail; go_returns; exact ⟨rfl, hbz3.trans (hb9.mono hbz3.size)⟩)
    · obtain ⟨h0, hW1, hW2, hH1, hH2⟩ : slC n p q r s = 0 ∧ 1 ≤ W ∧ W ≤ 32768 ∧ 1 ≤ H ∧ H ≤ 32768 := by unfold winBad at hbad; omega
      have hn4 : n = 4 := by
        unfold slC at h0
        split at h0
        · omega
        · omega
      subst hn4
      have hC := hc4 rfl
      clear hc4
      have hsl : sl4B p q r s = true := by
        unfold slC at h0
        rw [if_neg (by omega)] at h0
        split at h0
        · assumption
        · omega
      obtain ⟨kp, kq, kr, ks⟩ := sl4B_iff.1 hsl
      obtain ⟨Hn, rfl⟩ : ∃ Hn : Nat, H = Hn := ⟨H.toNat, by omega⟩
      obtain ⟨X0, hX0⟩ : ∃ X, X = loW p s 0 ((Hn : Int) - 1) := ⟨_, rfl⟩
      obtain ⟨X1, hX1⟩ : ∃ X, X = hiW p s 0 ((Hn : Int) - 1) + W := ⟨_, rfl⟩
      obtain ⟨Y0, hY0⟩ : ∃ X, X = loW q r X0 (X1 - 1) := ⟨_, rfl⟩
      obtain ⟨Y1, hY1⟩ : ∃ X, X = hiW q r X0 (X1 - 1) + Hn := ⟨_, rfl⟩
      have hwin : Win p q r s W Hn X0 X1 Y0 Y1 := ⟨hX0, hX1, hY0, hY1⟩
      have hbx := mvs2 kp ks (x := 0) (y := (Hn : Int) - 1) ⟨by omega, by omega⟩ ⟨by omega, by omega⟩
      have hbX0 : bdI 262145 X0 := by omega
      have hbX1 : bdI 294913 X1 := by omega
      have hby0 := (mv_bd kq kr (y := X0) ⟨by omega, by omega⟩).2
      have hby1 := (mv_bd kq kr (y := X1 - 1) ⟨by omega, by omega⟩).2
      have hFst := fun (w' : World) (hC' : C4 w' w.heap.size A p q r s) (hB' : w.heap.size ≤ w'.heap.size) => (first_any A cp p q r s W Hn w' hC' hB' kp ks ⟨hW1, hW2⟩ (by omega)).mono
        (R' := fun e w'' => e = .returned (rect4 X0 0 X1 Hn) ∧ Below w'.heap.size w' w'') (fun e w'' ⟨h1, h2⟩ => ⟨by
          obtain ⟨k, hk⟩ : ∃ k, Hn = k + 1 := ⟨Hn - 1, by omega⟩
          have := minU_eq kp ks ⟨hW1, hW2⟩ k (by omega)
          rw [h1, hX0, hX1]
          rw [show ((Hn : Int) - 1) = (k : Int) by omega, ← this.1, ← this.2, ← hk], h2⟩)
      have hSnd := fun (w' : World) (hC' : C4 w' w.heap.size A p q r s) (hB' : w.heap.size ≤ w'.heap.size) => (second_any A cp p q r s Hn X0 X1 w' hC' hB' kq kr ks ⟨by omega, by omega⟩ ⟨by omega, by omega⟩ ⟨by omega, by omega⟩ ⟨by omega, by omega⟩).mono
        (R' := fun e w'' => e = .returned (rect4 X0 Y0 X1 Y1) ∧ Below w'.heap.size w' w'') (fun e w'' ⟨h1, h2⟩ => ⟨by
          have e1 : sec0 q r Hn X0 X1 2 = Y0 := by rw [hY0]; unfold loW; show min (min 1099511627776 (mv q r X0)) (mv q r (X1 - 1)) = _; omega
          have e2 : sec1 q r Hn X0 X1 2 = Y1 := by rw [hY1]; unfold hiW; show max (max (-1099511627776) (mv q r X0 + Hn)) (mv q r (X1 - 1) + Hn) = _; omega
          rw [h1, e1, e2], h2⟩)
      have hChk := fun (w' : World) (hC' : C4 w' w.heap.size A p q r s) => (rcheck22_any A 4 cp p q r s w' (B := w.heap.size) (fun _ => hC')).mono
        (R' := fun e w'' => e = .returned (.int .i64 0) ∧ w' = w'') (fun e w'' ⟨h1, h2⟩ => ⟨by rw [h1, h0], h2⟩)
      clear hbx hbX0 hbX1 hby0 hby1 hX0 hX1 hY0 hY1 hsl h0
      refine (win_ok A cp p q r s W Hn X0 X1 Y0 Y1 _ (B := w.heap.size) (hC.below hbz (Nat.le_refl _)) (by simp) hbad hwin).mono ?_
      rintro e w2 ⟨rfl, hb2⟩
      have hbz2 := hbz.trans (hb2.mono (by simp))
      replace hK := hK.nx hb2
      clear hb2 hbz hwin hbad
      have hK3 := (Bk.new w2 26 (rectA X0 0 X1 Hn)).alloc (.cells (rectA X0 Y0 X1 Y1) 26)
      have hK4 := Bk.new (w2.alloc (.cells (rectA X0 0 X1 Hn) 26)) 26 (rectA X0 Y0 X1 Y1)
      simp only [World.size_alloc] at hK4
      have hK' := (hK.alloc (.cells (rectA X0 0 X1 Hn) 26)).alloc (.cells (rectA X0 Y0 X1 Y1) 26)
      have hbz3 := (hbz2.alloc hbz2.size (.cells (rectA X0 0 X1 Hn) 26)).alloc (by have := hbz2.size; simp; omega) (.cells (rectA X0 Y0 X1 Y1) 26)
      obtain ⟨e0, e1, e2, e3, e4, e5, e6, e7⟩ := can_cells hK'
      have hl2 := hK.lt
      go_wp2_with (go_at_call 15; (with_reducible refine (hChk _ (by exact hC.below hbz3 (Nat.le_refl _))).mono ?_); rintro e w' ⟨rfl, rfl⟩)
      refine (hFst _ (hC.below hbz3 (Nat.le_refl _)) hbz3.size).mono ?_
      rintro e w4 ⟨rfl, hb4⟩
      have hbz4 := (hbz3.trans (hb4.mono hbz3.size))
      have kS := (hK'.nx hb4).alloc (.cells (rectA X0 0 X1 Hn) 26)
      have k3 := (hK3.nx hb4).alloc (.cells (rectA X0 0 X1 Hn) 26)
      have k4 := (hK4.nx hb4).alloc (.cells (rectA X0 0 X1 Hn) 26)
      have k6 := Bk.new w4 26 (rectA X0 0 X1 Hn)
      have hbz5 := hbz4.alloc hbz4.size (.cells (rectA X0 0 X1 Hn) 26)
      clear e0 e1 e2 e3 e4 e5 e6 e7 hb4 hK hK' hK3 hK4 hbz3 hbz4 hFst hChk
      go_upto_region 7 with fail
      generalize w4.alloc (.cells (rectA X0 0 X1 Hn) 26) = w5 at *
      have hC5 := hC.below hbz5 (Nat.le_refl _)
      have hbz5d : w.heap.size ≤ w5.drew.heap.size := hbz5.size
      have e0 := kS.cell 0
      simp at e0
      have hlS := kS.lt
      have hl3 := k3.lt
      have hl4 := k4.lt
      have hl6 := k6.lt
      obtain ⟨a0, a1, a2, a3⟩ := k3.cell4
      obtain ⟨b0, b1, b2, b3⟩ := k4.cell4
      obtain ⟨c0, c1, c2, c3⟩ := k6.cell4
      go_region_held3 (fun w' => (w'.cell? ⟨w2.heap.size, 0, none⟩ = some (.int .i64 X0) ∧ w'.cell? ⟨w2.heap.size, 1, none⟩ = some (.int .i64 0) ∧ w'.cell? ⟨w2.heap.size, 2, none⟩ = some (.int .i64 X1) ∧ w'.cell? ⟨w2.heap.size, 3, none⟩ = some (.int .i64 Hn)) ∧ (w'.cell? ⟨w2.heap.size + 1, 0, none⟩ = some (.int .i64 X0) ∧ w'.cell? ⟨w2.heap.size + 1, 1, none⟩ = some (.int .i64 Y0) ∧ w'.cell? ⟨w2.heap.size + 1, 2, none⟩ = some (.int .i64 X1) ∧ w'.cell? ⟨w2.heap.size + 1, 3, none⟩ = some (.int .i64 Y1)) ∧ (w'.cell? ⟨w4.heap.size, 0, none⟩ = some (.int .i64 X0) ∧ w'.cell? ⟨w4.heap.size, 1, none⟩ = some (.int .i64 0) ∧ w'.cell? ⟨w4.heap.size, 2, none⟩ = some (.int .i64 X1) ∧ w'.cell? ⟨w4.heap.size, 3, none⟩ = some (.int .i64 Hn)) ∧ w'.cell? ⟨w.heap.size, 0, none⟩ = some (.slice A 4 cp) ∧ Below w5.heap.size w5 w')
        (first
          | with_reducible exact keepV ⟨a0, a1, a2, a3⟩ hl3 ⟨b0, b1, b2, b3⟩ hl4 ⟨c0, c1, c2, c3⟩ hl6 e0 hlS hbl
          | with_reducible exact keepV ⟨a0, a1, a2, a3⟩ hl3 ⟨b0, b1, b2, b3⟩ hl4 ⟨c0, c1, c2, c3⟩ hl6 e0 hlS hbs
          | (refine keepV ⟨a0, a1, a2, a3⟩ hl3 ⟨b0, b1, b2, b3⟩ hl4 ⟨c0, c1, c2, c3⟩ hl6 e0 hlS ?_; go_grown))
        (first
          | (go_at_call 17; (with_reducible refine (hSnd _ (hC5.below (by first | exact hbl | go_grown) hbz5.size) (by first | exact Nat.le_trans hbz5.size hbl.size | exact hbz5d)).mono ?_); rintro e ws ⟨rfl, hbs'⟩; have hbs : Below w5.heap.size w5 ws := Below.trans (by first | exact hbl | go_grown) (hbs'.mono (by first | exact hbl.size | exact Nat.le_refl _)))
          | (go_at_call 13; (with_reducible refine (alive_any _).mono ?_); rintro e wl ⟨rfl, hbl'⟩; have hbl : Below w5.heap.size w5 wl := Below.trans (by first | exact hbs | go_grown) (hbl'.mono (by first | exact hbs.size | exact Nat.le_refl _))))
      all_goals
        rename_i hHeld
        have hbx := hHeld.2.2.2.2
        clear hHeld
        go_wp2_with fail
        go_returns
        exact ⟨rfl, hbz5.trans (hbx.mono hbz5.size)⟩
end Go.Proofs.Ytpcjoalbhicccaa
