/- The windows. -/
import Derived.Test.YtpcjoalbhicccaaTh6
set_option linter.unusedVariables false
namespace Go.Proofs.Ytpcjoalbhicccaa
open Go.RowKit
def loW (b c x y : Int) : Int := min (mv b c x) (mv b c y)
def hiW (b c x y : Int) : Int := max (mv b c x) (mv b c y)
structure Win (p q r s W H X0 X1 Y0 Y1 : Int) : Prop where
  x0 : X0 = loW p s 0 (H - 1)
  x1 : X1 = hiW p s 0 (H - 1) + W
  y0 : Y0 = loW q r X0 (X1 - 1)
  y1 : Y1 = hiW q r X0 (X1 - 1) + H
abbrev winV (a b c d a' b' c' d' : Int) (t : Bool) : Value := .tuple #[rect4 a b c d, rect4 a' b' c' d', .bool t]
def winBad (n : Nat) (p q r s W H : Int) : Prop := slC n p q r s ≠ 0 ∨ W < 1 ∨ 32768 < W ∨ H < 1 ∨ 32768 < H
set_option maxHeartbeats 1000000 in
theorem win_bad (A : Option Addr) (n c : Nat) (p q r s W H : Int) (w : World) {B : Nat} (h : n = 4 → C4 w B A p q r s) (hB : B ≤ w.heap.size) (hbad : winBad n p q r s W H) :
    Calls Try.prog 14 #[.slice A n c, .int .i64 W, .int .i64 H] w fun e w' => e = .returned (winV 0 0 0 0 0 0 0 0 false) ∧ Below w.heap.size w w' := by
  have HBAD := Lib.hid hbad
  clear hbad
  by_cases h0 : slC n p q r s = 0
  all_goals
    first
      | (have hb0 : (slC n p q r s != 0) = false := by simpa using h0)
      | (have hb0 : (slC n p q r s != 0) = true := by simpa using h0)
    have H0 := Lib.hid h0
    clear h0
    go_enter Try.func14, Try.ntmps14
    go_wp2_with (go_at_call 34; (with_reducible refine (scheck_any A n c p q r s _ (B := B) (by intro e; exact (h e).below ((((Below.refl w.heap.size w).alloc (Nat.le_refl _) _).alloc (by simp) _)) hB)).mono ?_); rintro e w' ⟨rfl, rfl⟩)
    all_goals
      first
        | (exfalso; have h1 := HBAD.out; have h2 := H0.out; unfold winBad at h1; omega)
        | (go_returns; exact ⟨rfl, by go_grown⟩)
theorem mvb {b c x y : Int} (hb : bdI 262144 b) (hc : bdI 32768 c) (hx : bdI 4294967296 x) (hy : bdI 4294967296 y) : bdI 17180000300 (loW b c x y) ∧ bdI 17180000300 (hiW b c x y) := by
  have h1 := (mv_bd hb hc hx).2
  have h2 := (mv_bd hb hc hy).2
  unfold loW hiW
  omega
end Go.Proofs.Ytpcjoalbhicccaa
