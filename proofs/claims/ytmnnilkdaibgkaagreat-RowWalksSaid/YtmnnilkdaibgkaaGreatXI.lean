/- Within an image, and half a pixel around it, each place comes from somewhere, no further than 2^46: plain. -/
import Derived.Test.YtmnnilkdaibgkaaGreatKG
import Derived.Test.YtmnnilkdaibgkaaGreatKH
import Derived.Test.YtmnnilkdaibgkaaGreatHs0
set_option linter.unusedVariables false
namespace Go.Proofs.YtmnnilkdaibgkaaGreat
open Go.RowKit
theorem cutF_bd (z : Int) : -70368744177664 ≤ cutF z ∧ cutF z ≤ 70368744177664 := by unfold cutF; split <;> (try split) <;> omega
theorem axF_mono {p p' d d' m f : Int} (hf : 0 < f) (h : 65536 * p / d ≤ 65536 * p' / d') : axF p d m f ≤ axF p' d' m f := by
  unfold axF
  exact Int.ediv_le_ediv hf (by omega)
theorem ax_lo {p d : Int} (hd : 1 ≤ d) (h : -d ≤ 2 * p) : 65536 * (-1) / 2 ≤ 65536 * p / d := by
  have e : (65536 * (-1) / 2 : Int) = -32768 := by decide
  rw [e]
  exact Int.le_ediv_of_mul_le (by omega) (by omega)
theorem ax_hi {p d W : Int} (hd : 1 ≤ d) (h : 2 * p ≤ (2 * W - 1) * d) : 65536 * p / d ≤ 65536 * (2 * W - 1) / 2 := by
  have e : 65536 * (2 * W - 1) / 2 = 32768 * (2 * W - 1) := by omega
  rw [e]
  refine Int.ediv_le_of_le_mul (by omega) ?_
  have h3 := Int.mul_le_mul_of_nonneg_left h (show (0 : Int) ≤ 32768 by decide)
  have e2 : 32768 * ((2 * W - 1) * d) = 32768 * (2 * W - 1) * d := by rw [Int.mul_assoc]
  omega
theorem far_in {l : List Int} {W H x y d : Int} (h : LeOk l W H) (hd : 1 ≤ d) (x0 : -d ≤ 2 * x) (x1 : 2 * x ≤ (2 * W - 1) * d) (y0 : -d ≤ 2 * y) (y1 : 2 * y ≤ (2 * H - 1) * d) : farL l x y d = false := by
  have hf := (rgL_bd h.rg).f
  obtain ⟨a, b⟩ := farL_no h.f1
  obtain ⟨a', b'⟩ := farL_no h.f2
  unfold farL
  rw [Bool.or_eq_false_iff, Bool.not_eq_false', Bool.not_eq_false', inH_iff, inH_iff]
  have e1 := axF_mono (m := cf l 0) (f := cf l 2) (by omega) (ax_lo hd x0)
  have e2 := axF_mono (m := cf l 0) (f := cf l 2) (by omega) (ax_hi hd x1)
  have e3 := axF_mono (m := cf l 1) (f := cf l 2) (by omega) (ax_lo hd y0)
  have e4 := axF_mono (m := cf l 1) (f := cf l 2) (by omega) (ax_hi hd y1)
  unfold leX at a a'
  unfold leY at b b'
  exact ⟨⟨by omega, by omega⟩, ⟨by omega, by omega⟩⟩
theorem plc_bd (a b : Int) : -70368744177664 ≤ plc a b ∧ plc a b ≤ 70368744177664 := cutF_bd _
theorem ite_bd {c : Prop} [Decidable c] {a b m : Int} (h : -m ≤ a ∧ a ≤ m) (h2 : -m ≤ b ∧ b ≤ m) : -m ≤ (if c then a else b) ∧ (if c then a else b) ≤ m := by split <;> assumption
/-- The plain law of XformIn. -/
theorem in_plain {k : Int} {l : List Int} {W H x y d : Int} (hc : xC k l W H = 0) (hr : rightH x y d = true) (x0 : -d ≤ 2 * x) (x1 : 2 * x ≤ (2 * W - 1) * d) (y0 : -d ≤ 2 * y) (y1 : 2 * y ≤ (2 * H - 1) * d) :
    xE k l x y d = 0 ∧ (-70368744177664 ≤ xF k l x y d ∧ xF k l x y d ≤ 70368744177664) ∧ (-70368744177664 ≤ xG k l x y d ∧ xG k l x y d ≤ 70368744177664) := by
  obtain ⟨hk, hs, hx⟩ := xC_zero hc
  obtain ⟨hW, hH⟩ := szH_iff.1 hs
  obtain ⟨i0, i1, d0, d1⟩ := rightH_iff.1 hr
  rcases (show k = 1 ∨ k = 2 ∨ k = 3 ∨ k = 4 ∨ k = 5 ∨ k = 6 by omega) with rfl | rfl | rfl | rfl | rfl | rfl
  · refine ⟨?_, ?_, ?_⟩
    · show afE x y d = 0
      unfold afE; rw [if_pos hr]
    · show _ ≤ afX l x y d ∧ afX l x y d ≤ _
      unfold afX; exact ite_bd (plc_bd _ _) (by omega)
    · show _ ≤ afY l x y d ∧ afY l x y d ≤ _
      unfold afY; exact ite_bd (plc_bd _ _) (by omega)
  · have hz : newC l W H = 0 := hx
    have hu : undR (adK (cf l) 9) x y d ≠ 0 := by
      rcases signs_plain hW hH (newC_zero.1 hz).sg with h | h
      · have := h x y d hr x0 x1 y0 y1; omega
      · have := h x y d hr x0 x1 y0 y1; omega
    refine ⟨?_, ?_, ?_⟩
    · show atE (adK (cf l) 9) x y d = 0
      unfold atE; rw [if_pos hr, if_pos hu]
    · show _ ≤ atX (adK (cf l) 9) x y d ∧ atX (adK (cf l) 9) x y d ≤ _
      unfold atX; exact ite_bd (plc_bd _ _) (by omega)
    · show _ ≤ atY (adK (cf l) 9) x y d ∧ atY (adK (cf l) 9) x y d ≤ _
      unfold atY; exact ite_bd (plc_bd _ _) (by omega)
  · have h : LeOk l W H := leC_zero.1 hx
    have hB := rgL_bd h.rg
    have hf := far_in h d0 x0 x1 y0 y1
    have hi : leIs l x y d = true := by unfold leIs; rw [hr, hf]; rfl
    obtain ⟨bx, hby⟩ := farL_no hf
    obtain ⟨k3, k4, k5, k6⟩ := le_k hB h.len
    have bd1 := (bdB (l := l) (s := cf l 6) (o := cf l 5) k3 k4 bx hby k6 k5).B
    have bd2 := (bdB (l := l) (s := cf l 5) (o := cf l 6) k3 k4 hby bx k5 k6).B
    have m1 := mulbd (show -32768 ≤ cf l 2 by have := hB.f; omega) hB.f.2 bd1.1 bd1.2
    have m2 := mulbd (show -32768 ≤ cf l 2 by have := hB.f; omega) hB.f.2 bd2.1 bd2.2
    have ha := hB.a
    have hb := hB.b
    refine ⟨?_, ?_, ?_⟩
    · show lnE l x y d = 0
      unfold lnE; rw [if_pos hi]
    · show _ ≤ lnF l x y d ∧ lnF l x y d ≤ _
      unfold lnF; rw [if_pos hi]; unfold leU; omega
    · show _ ≤ lnG l x y d ∧ lnG l x y d ≤ _
      unfold lnG; rw [if_pos hi]; unfold leV; omega
  · refine ⟨?_, ?_, ?_⟩
    · show meE x y d = 0
      unfold meE; rw [if_pos hr]
    · show _ ≤ meU l x y d ∧ meU l x y d ≤ _
      unfold meU; exact ite_bd (cutF_bd _) (by omega)
    · show _ ≤ meVv l x y d ∧ meVv l x y d ≤ _
      unfold meVv; exact ite_bd (cutF_bd _) (by omega)
  · have h : shC l = 0 := hx
    have hg := (shC_zero.1 h).2
    obtain ⟨_, _, c2, c3⟩ := rg4_bd hg
    have n0 := nr_bd (B := 1048576) d0 i0.1 i0.2 (by decide)
    have n1 := nr_bd (B := 1048576) d0 i1.1 i1.2 (by decide)
    have hS := slB hg (x := nrF x d) (y := nrF y d) (by omega) (by omega)
    have s1 := hS.x2
    have s2 := hS.y1
    refine ⟨?_, ?_, ?_⟩
    · show afE x y d = 0
      unfold afE; rw [if_pos hr]
    · show _ ≤ shF l x y d ∧ shF l x y d ≤ _
      unfold shF; rw [if_pos hr]; unfold shU; omega
    · show _ ≤ shG l x y d ∧ shG l x y d ≤ _
      unfold shG; rw [if_pos hr]; unfold shV; omega
  · have h : TuOk l := tuC_zero.1 hx
    obtain ⟨t1, t2⟩ := tuP_bd h hr
    have b1 := div_bd (p := 65536 * tuPx l x y d) (d := d) (B := 70368744177664) d0 (by omega) (by omega) (by decide)
    have b2 := div_bd (p := 65536 * tuPy l x y d) (d := d) (B := 70368744177664) d0 (by omega) (by omega) (by decide)
    refine ⟨?_, ?_, ?_⟩
    · show afE x y d = 0
      unfold afE; rw [if_pos hr]
    · show _ ≤ tuF l x y d ∧ tuF l x y d ≤ _
      unfold tuF; rw [if_pos hr]; exact b1
    · show _ ≤ tuG l x y d ∧ tuG l x y d ≤ _
      unfold tuG; rw [if_pos hr]; exact b2
end Go.Proofs.YtmnnilkdaibgkaaGreat
