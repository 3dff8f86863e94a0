/- Several texts in one: The reference's maps answer as the program's: affine and mesh, plain. The reference's xform: where a place comes from, by a mesh. The reference's xform: where a place comes from, by a shear; by any kind. The reference's xform: where a place comes from, by a map of any kind. -/
import Derived.Test.YtmnnilkdaibgkaaGreatKF
import Derived.Test.YtmnnilkdaibgkaaGreatN4
import Derived.Test.YtmnnilkdaibgkaaGreatK7
import Derived.Test.YtmnnilkdaibgkaaGreatKH
section
set_option linter.unusedVariables false
namespace Go.Proofs.YtmnnilkdaibgkaaGreat
open Go.RowKit
theorem fq_flo (a b : Int) : fq a b = flo a b := by
  unfold fq flo
  by_cases h : b < 0
  · rw [if_pos h, if_neg (by omega)]
  · rw [if_neg h]
    by_cases h2 : 0 < b
    · rw [if_pos h2]
    · rw [if_neg h2]
      have : b = 0 := by omega
      subst this
      simp
theorem rmU_x {l : List Int} {px py d : Int} (h : rightH px py d = true) : rmU l 0 px py d = meU l px py d := by
  unfold rmU meU
  rw [if_pos h, cut_eq, fq_flo]
  rfl
theorem rmU_y {l : List Int} {px py d : Int} (h : rightH px py d = true) : rmU l 1 px py d = meVv l px py d := by
  unfold rmU meVv
  rw [if_pos h, cut_eq, fq_flo]
  rfl
theorem rA18_x {l : List Int} {px py d : Int} (h : rightH px py d = true) : rA18 l px py d = afX l px py d := by
  unfold rA18 afX plc
  rw [if_pos h, cut_eq, fq_flo]
  have e1 : d * dtA l = dtA l * d := Int.mul_comm _ _
  have e2 : rU18 l px py d = smR (afU l 0) (afU l 1) (afU l 2) px py d := by
    unfold rU18 rX18 rY18 smR afU
    grind
  rw [e1, e2]
theorem rB18_y {l : List Int} {px py d : Int} (h : rightH px py d = true) : rB18 l px py d = afY l px py d := by
  unfold rB18 afY plc
  rw [if_pos h, cut_eq, fq_flo]
  have e1 : d * dtA l = dtA l * d := Int.mul_comm _ _
  have e2 : rV18 l px py d = smR (afU l 3) (afU l 4) (afU l 5) px py d := by
    unfold rV18 rX18 rY18 smR afU
    grind
  rw [e1, e2]
end Go.Proofs.YtmnnilkdaibgkaaGreat
end
section
set_option linter.unusedVariables false
namespace Go.Proofs.YtmnnilkdaibgkaaGreat
open Go.RowKit
set_option maxRecDepth 100000 in
set_option maxHeartbeats 16000000 in
theorem rat24_4 (l : List Int) (A : Option Addr) (n cp : Nat) (W H px py d : Int) (w : World) {B : Nat} (hl : l.length = n) (hr : Rd w B A (l.map (Value.int .i64))) (hB : B ≤ w.heap.size) (hC : meC l W H = 0) (hp : rightH px py d = true) :
    Calls Tryz.prog 11 #[xfV 4 A n cp, .int .i64 px, .int .i64 py, .int .i64 d] w fun e w' => e = .returned (.tuple #[.int .i64 (rmU l 0 px py d), .int .i64 (rmU l 1 px py d), .int .i64 0]) ∧ Below w.heap.size w w' := by
  obtain ⟨⟨px0, px1⟩, ⟨py0, py1⟩, dd0, dd1⟩ := rightH_iff.1 hp
  have hF := meC_F hC
  have hln := (meC_zero.1 hC).2.2.1
  have hL := (Lie.start w).alloc #[.int .i64 4, .slice A n cp] 24
  have hb := hL.bel
  have kt := hL.k 0 (by simp)
  simp only [List.getElem_cons_zero] at kt
  have h21a : ∀ w', Below w.heap.size w w' → Calls Tryz.prog 25 #[.slice A n cp, .int .i64 px, .int .i64 py, .int .i64 d, .int .i64 0] w' fun e w'' => e = .returned (.int .i64 (rmU l 0 px py d)) ∧ Below w'.heap.size w' w'' := fun w' hb' => rat21 l A n cp px py d 0 w' hF hl hln (hr.below' hb' hB) (Nat.le_trans hB hb'.size) ⟨dd0, dd1⟩ (by omega) (by omega) (by omega)
  have h21b : ∀ w', Below w.heap.size w w' → Calls Tryz.prog 25 #[.slice A n cp, .int .i64 px, .int .i64 py, .int .i64 d, .int .i64 1] w' fun e w'' => e = .returned (.int .i64 (rmU l 1 px py d)) ∧ Below w'.heap.size w' w'' := fun w' hb' => rat21 l A n cp px py d 1 w' hF hl hln (hr.below' hb' hB) (Nat.le_trans hB hb'.size) ⟨dd0, dd1⟩ (by omega) (by omega) (by omega)
  generalize rmU l 0 px py d = U at *
  generalize rmU l 1 px py d = V at *
  clear hC hl hr hF hln hL
  go_enter Tryz.func11, Tryz.ntmps11
  go_wp2_with (first
    | (go_at_call 21; (with_reducible refine (rright_h _ _ _ _).mono ?_); rintro e w' ⟨rfl, rfl⟩; rw [hp]))
  generalize w.alloc (.cells #[.int .i64 4, .slice A n cp] 24) = w1 at *
  obtain ⟨c0, c1⟩ := kt.cell2
  have hlt := kt.lt
  have hz := hb.size
  have hR := (Below.refl w1.heap.size w1).drew
  go_region_with (first
    | (go_at_call 25; (with_reducible refine (h21a _ (hb.trans (hR.mono hz))).mono ?_); rintro e wa ⟨rfl, hba⟩; have hBa : Below w1.heap.size w1 wa := hR.trans (hba.mono hR.size); have ca1 := (hBa.cell (p := ⟨w.heap.size, 1, none⟩) hlt).trans c1)
    | (go_at_call 25; (with_reducible refine (h21b _ (hb.trans (hR.mono hz))).mono ?_); rintro e wa ⟨rfl, hba⟩; have hBa : Below w1.heap.size w1 wa := hR.trans (hba.mono hR.size); have ca1 := (hBa.cell (p := ⟨w.heap.size, 1, none⟩) hlt).trans c1)
    | (go_at_call 25; (with_reducible refine (h21a _ (hb.trans (hBa.mono hz))).mono ?_); rintro e wb ⟨rfl, hbb⟩; have hBb : Below w1.heap.size w1 wb := hBa.trans (hbb.mono hBa.size); have cb1 := (hBb.cell (p := ⟨w.heap.size, 1, none⟩) hlt).trans c1)
    | (go_at_call 25; (with_reducible refine (h21b _ (hb.trans (hBa.mono hz))).mono ?_); rintro e wb ⟨rfl, hbb⟩; have hBb : Below w1.heap.size w1 wb := hBa.trans (hbb.mono hBa.size); have cb1 := (hBb.cell (p := ⟨w.heap.size, 1, none⟩) hlt).trans c1))
  all_goals
    go_wp2_with fail
    go_returns
    exact ⟨rfl, hb.trans (hBb.mono hz)⟩
end Go.Proofs.YtmnnilkdaibgkaaGreat
end
section
set_option linter.unusedVariables false
namespace Go.Proofs.YtmnnilkdaibgkaaGreat
open Go.RowKit
set_option maxRecDepth 100000 in
set_option maxHeartbeats 16000000 in
theorem rat24_5 (l : List Int) (A : Option Addr) (n cp : Nat) (px py d : Int) (w : World) {B : Nat} (hl : l.length = n) (hr : Rd w B A (l.map (Value.int .i64))) (hB : B ≤ w.heap.size) (hC : shC l = 0) (hp : rightH px py d = true) :
    Calls Tryz.prog 11 #[xfV 5 A n cp, .int .i64 px, .int .i64 py, .int .i64 d] w fun e w' => e = .returned (.tuple #[.int .i64 (shU l px py d), .int .i64 (shV l px py d), .int .i64 0]) ∧ Below w.heap.size w w' := by
  obtain ⟨⟨px0, px1⟩, ⟨py0, py1⟩, dd0, dd1⟩ := rightH_iff.1 hp
  obtain ⟨hlen, hrg⟩ := shC_zero.1 hC
  obtain rfl : n = 4 := by rw [← hl]; exact hlen
  have hL := (Lie.start w).alloc #[.int .i64 5, .slice A 4 cp] 24
  have hb := hL.bel
  have kt := hL.k 0 (by simp)
  simp only [List.getElem_cons_zero] at kt
  have bx := nr_bd (p := px) (d := d) (B := 1048576) dd0 (by omega) (by omega) (by omega)
  have bY := nr_bd (p := py) (d := d) (B := 1048576) dd0 (by omega) (by omega) (by omega)
  have hP : ∀ w', Below w.heap.size w w' → Calls Tryz.prog 26 #[.slice A 4 cp, .int .i64 (nrF px d), .int .i64 (nrF py d)] w' fun e w'' => e = .returned (.tuple #[.int .i64 (slZ l (nrF px d) (nrF py d) + cf l 2), .int .i64 (slY l (nrF px d) (nrF py d) + cf l 3)]) ∧ Below w'.heap.size w' w'' := fun w' hb' => rpixel22 l A cp (nrF px d) (nrF py d) w' hlen hrg (hr.below' hb' hB) (by omega) (by omega)
  have hN1 := fun w' => rnear_any px d w' dd0 (by omega) (by omega) (by omega)
  have hN2 := fun w' => rnear_any py d w' dd0 (by omega) (by omega) (by omega)
  have hS := slB hrg (x := nrF px d) (y := nrF py d) (by omega) (by omega)
  obtain ⟨_, _, b2, b3⟩ := rg4_bd hrg
  obtain ⟨_, _, _, _, _, y1, _, x2⟩ := hS
  have hU : Hid (shU l px py d = 65536 * (slZ l (nrF px d) (nrF py d) + cf l 2)) := rfl
  have hV : Hid (shV l px py d = 65536 * (slY l (nrF px d) (nrF py d) + cf l 3)) := rfl
  obtain ⟨zu, hzu⟩ : ∃ z, slZ l (nrF px d) (nrF py d) + cf l 2 = z := ⟨_, rfl⟩
  obtain ⟨zv, hzv⟩ : ∃ z, slY l (nrF px d) (nrF py d) + cf l 3 = z := ⟨_, rfl⟩
  have w1' : IntKind.i64.wrap (65536 * zu) = 65536 * zu := IntWalk.i64_in _ ⟨by omega, by omega⟩
  have w2' : IntKind.i64.wrap (65536 * zv) = 65536 * zv := IntWalk.i64_in _ ⟨by omega, by omega⟩
  rw [hzu] at hP hU
  rw [hzv] at hP hV
  generalize nrF px d = X at *
  generalize nrF py d = Y at *
  clear hC hl hr hlen hrg hL bx bY b2 b3 y1 x2 hzu hzv
  go_enter Tryz.func11, Tryz.ntmps11
  go_wp2_with (first
    | (go_at_call 21; (with_reducible refine (rright_h _ _ _ _).mono ?_); rintro e w' ⟨rfl, rfl⟩; rw [hp]))
  generalize w.alloc (.cells #[.int .i64 5, .slice A 4 cp] 24) = w1 at *
  obtain ⟨c0, c1⟩ := kt.cell2
  have hz := hb.size
  have hR := (Below.refl w1.heap.size w1).drew
  go_region_with (first
    | (go_at_call 27; (with_reducible refine (hN1 _).mono ?_); rintro e wa ⟨rfl, rfl⟩)
    | (go_at_call 27; (with_reducible refine (hN2 _).mono ?_); rintro e wa ⟨rfl, rfl⟩)
    | (go_at_call 26; (with_reducible refine (hP _ (hb.trans (hR.mono hz))).mono ?_); rintro e wb ⟨rfl, hbb⟩; have hBb : Below w1.heap.size w1 wb := hR.trans (hbb.mono hR.size)))
  all_goals
    go_wp2_with fail
    go_returns
    exact ⟨by rw [hU.out, hV.out]; rfl, hb.trans (hBb.mono hz)⟩
end Go.Proofs.YtmnnilkdaibgkaaGreat
end
section
set_option linter.unusedVariables false
namespace Go.Proofs.YtmnnilkdaibgkaaGreat
open Go.RowKit
theorem rat24 (k : Int) (l : List Int) (A : Option Addr) (n cp : Nat) (W H px py d : Int) (w : World) {B : Nat} (hl : l.length = n) (hr : Rd w B A (l.map (Value.int .i64))) (hB : B ≤ w.heap.size) (hC : xC k l W H = 0) :
    Calls Tryz.prog 11 #[xfV k A n cp, .int .i64 px, .int .i64 py, .int .i64 d] w fun e w' => e = .returned (.tuple #[.int .i64 (xF k l px py d), .int .i64 (xG k l px py d), .int .i64 (xE k l px py d)]) ∧ Below w.heap.size w w' := by
  cases hp : rightH px py d
  · exact rat24_no k l A n cp W H px py d w hC hp
  obtain ⟨hk, _, hx⟩ := xC_zero hC
  have hE : afE px py d = 0 := by unfold afE; rw [if_pos hp]
  rcases (show k = 1 ∨ k = 2 ∨ k = 3 ∨ k = 4 ∨ k = 5 ∨ k = 6 by omega) with rfl | rfl | rfl | rfl | rfl | rfl
  · have h := rat24_1 l A n cp px py d w hl hr hB hx hp
    rw [rA18_x hp, rB18_y hp] at h
    show Calls _ _ _ _ fun e w' => e = .returned (.tuple #[.int .i64 (afX l px py d), .int .i64 (afY l px py d), .int .i64 (afE px py d)]) ∧ _
    rw [hE]; exact h
  · show Calls _ _ _ _ fun e w' => e = .returned (.tuple #[.int .i64 (atX (adK (cf l) 9) px py d), .int .i64 (atY (adK (cf l) 9) px py d), .int .i64 (atE (adK (cf l) 9) px py d)]) ∧ _
    by_cases h0 : undR (adK (cf l) 9) px py d = 0
    · have e1 : atX (adK (cf l) 9) px py d = 0 := by unfold atX; simp [h0]
      have e2 : atY (adK (cf l) 9) px py d = 0 := by unfold atY; simp [h0]
      have e3 : atE (adK (cf l) 9) px py d = 41 := by unfold atE; simp [hp, h0]
      rw [e1, e2, e3]
      exact rat24_2n l A n cp W H px py d w hl hr hB hx hp h0
    · have e3 : atE (adK (cf l) 9) px py d = 0 := by unfold atE; simp [hp, h0]
      rw [e3]
      exact rat24_2 l A n cp W H px py d w hl hr hB hx hp h0
  · show Calls _ _ _ _ fun e w' => e = .returned (.tuple #[.int .i64 (lnF l px py d), .int .i64 (lnG l px py d), .int .i64 (lnE l px py d)]) ∧ _
    cases hf : farL l px py d
    · have e1 : lnF l px py d = leU l px py d := by unfold lnF leIs; simp [hp, hf]
      have e2 : lnG l px py d = leV l px py d := by unfold lnG leIs; simp [hp, hf]
      have e3 : lnE l px py d = 0 := by unfold lnE leIs; simp [hp, hf]
      rw [e1, e2, e3]
      exact rat24_3 l A n cp W H px py d w hl hr hB hx hp hf
    · have e1 : lnF l px py d = 0 := by unfold lnF leIs; simp [hf]
      have e2 : lnG l px py d = 0 := by unfold lnG leIs; simp [hf]
      have e3 : lnE l px py d = 11 := by unfold lnE leIs; simp [hf]
      rw [e1, e2, e3]
      exact rat24_3n l A n cp W H px py d w hl hr hB hx hp hf
  · have h := rat24_4 l A n cp W H px py d w hl hr hB hx hp
    rw [rmU_x hp, rmU_y hp] at h
    have e3 : meE px py d = 0 := by unfold meE; rw [if_pos hp]
    show Calls _ _ _ _ fun e w' => e = .returned (.tuple #[.int .i64 (meU l px py d), .int .i64 (meVv l px py d), .int .i64 (meE px py d)]) ∧ _
    rw [e3]; exact h
  · have h := rat24_5 l A n cp px py d w hl hr hB hx hp
    show Calls _ _ _ _ fun e w' => e = .returned (.tuple #[.int .i64 (shF l px py d), .int .i64 (shG l px py d), .int .i64 (afE px py d)]) ∧ _
    have e1 : shF l px py d = shU l px py d := by unfold shF; rw [if_pos hp]
    have e2 : shG l px py d = shV l px py d := by unfold shG; rw [if_pos hp]
    rw [e1, e2, hE]; exact h
  · have h := rat24_6 l A n cp px py d w hl hr hB hx hp
    show Calls _ _ _ _ fun e w' => e = .returned (.tuple #[.int .i64 (tuF l px py d), .int .i64 (tuG l px py d), .int .i64 (afE px py d)]) ∧ _
    have e1 : tuF l px py d = 65536 * tuPx l px py d / d := by unfold tuF; rw [if_pos hp]
    have e2 : tuG l px py d = 65536 * tuPy l px py d / d := by unfold tuG; rw [if_pos hp]
    rw [e1, e2, hE]; exact h
end Go.Proofs.YtmnnilkdaibgkaaGreat
end
