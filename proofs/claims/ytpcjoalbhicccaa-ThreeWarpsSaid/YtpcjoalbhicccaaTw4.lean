/- Warp: what is wrong, and what is right, against the reference's pixels. -/
import Derived.Test.YtpcjoalbhicccaaTw0
import Derived.Test.YtpcjoalbhicccaaTw3
set_option linter.unusedVariables false
namespace Go.Proofs.Ytpcjoalbhicccaa
open Go.RowKit
set_option maxRecDepth 100000 in
set_option maxHeartbeats 4000000 in
theorem warp_bad (W H C : Int) (A A2 : Option Addr) (n cp n2 c2 : Nat) (m a b c d p q r s wd ht : Int) (w : World) {B : Nat} (hC : n2 = 4 → C4 w B A2 p q r s) (hB : B ≤ w.heap.size) (h : thrC W H C n n2 p q r s wd ht m ≠ 0) :
    Calls Try.prog 18 #[.agg #[.int .i64 W, .int .i64 H, .int .i64 C, .slice A n cp], .slice A2 n2 c2, .int .i64 wd, .int .i64 ht, bordV m a b c d] w fun e w' => e = .returned (.tuple #[.agg #[.int .i64 0, .int .i64 0, .int .i64 0, .slice none 0 0], .int .i64 (thrC W H C n n2 p q r s wd ht m)]) ∧ Below w.heap.size w w' := by
  have hb0 : (thrC W H C n n2 p q r s wd ht m != 0) = true := by simpa using h
  have hThr := fun (w' : World) (hC' : n2 = 4 → C4 w' B A2 p q r s) (hB' : B ≤ w'.heap.size) => thr_any W H C A A2 n cp n2 c2 m a b c d p q r s wd ht w' hC' hB'
  clear h
  generalize thrC W H C n n2 p q r s wd ht m = tc at *
  have HC := Lib.hid hC
  clear hC
  go_enter Try.func18, Try.ntmps18
  obtain ⟨k5, k9, k10, hbz, hs3⟩ := allocs3 w #[.int .i64 W, .int .i64 H, .int .i64 C, .slice A n cp] #[.int .i64 m, .int .u8 a, .int .u8 b, .int .u8 c, .int .u8 d] #[.int .i64 0, .int .i64 0, .int .i64 0, .slice none 0 0] 24 42 24
  go_wp2_with fail
  refine (hThr _ (fun h => (HC.out h).below hbz hB) (Nat.le_trans hB hbz.size)).mono ?_
  rintro e wa ⟨rfl, hba⟩
  replace k10 := k10.nx hba
  have hbzA := hbz.trans (hba.mono (by simp <;> omega))
  have hza := hba.size
  rw [hs3] at hza
  clear hba hbz hs3 hThr k5 k9
  go_wp2_with (refine stImg rfl _ _ rfl k10 rfl rfl rfl ?_; intro w2 k12'' hg2 _)
  refine bodyPost_ret (res_img_tmp rfl k12'' rfl) rfl ?_
  exact ⟨rfl, below_of_gb hbzA hg2 (by omega) hbzA.size⟩
/-- The windows hold what is asked for. -/
structure WinOk (p q r s : Int) (wd ht : Nat) : Prop where
  kp : bdI 262144 p
  kq : bdI 262144 q
  kr : bdI 32768 r
  ks : bdI 32768 s
  w0 : 1 ≤ wd ∧ wd ≤ 32768
  h0 : 1 ≤ ht ∧ ht ≤ 32768
theorem WinOk.bd {p q r s : Int} {wd ht : Nat} (k : WinOk p q r s wd ht) : bdI 262145 (winX0 p s ht) ∧ bdI 294913 (winX1 p s wd ht) ∧ bdI 1763841 (winY0 p q r s wd ht) ∧ bdI 1763841 (winY1 p q r s wd ht) ∧ winX0 p s ht + wd ≤ winX1 p s wd ht ∧ winY0 p q r s wd ht + ht ≤ winY1 p q r s wd ht := by
  obtain ⟨kp, kq, kr, ks, ⟨w1, w2⟩, h1, h2⟩ := k
  obtain ⟨b0, b1, _, _, _, _⟩ := win_bd kp kq kr ks (wd := (wd : Int)) (ht := (ht : Int)) ⟨by omega, by omega⟩ ⟨by omega, by omega⟩
  have m0 := mv_bd2 kq kr (y := winX0 p s ht) ⟨by omega, by omega⟩
  have m1 := mv_bd2 kq kr (y := winX1 p s wd ht - 1) ⟨by omega, by omega⟩
  refine ⟨b0, b1, ?_, ?_, ?_, ?_⟩
  · unfold winY0 loW; omega
  · unfold winY1 hiW; omega
  · unfold winX0 winX1 loW hiW; omega
  · unfold winY0 winY1 loW hiW; omega
theorem WinOk.across {p q r s : Int} {wd ht : Nat} (k : WinOk p q r s wd ht) (x y : Int) (hx : 0 ≤ x) (hx2 : x < wd) (hy : 0 ≤ y) (hy2 : y < ht) : winX0 p s ht ≤ x + mv p s y ∧ x + mv p s y < winX1 p s wd ht := by
  have := mv_btw (b := p) (c := s) (x := 0) (y := y) (z := (ht : Int) - 1) hy (by omega)
  unfold winX0 winX1
  omega
theorem WinOk.along {p q r s : Int} {wd ht : Nat} (k : WinOk p q r s wd ht) (x y : Int) (hx : winX0 p s ht ≤ x) (hx2 : x < winX1 p s wd ht) (hy : 0 ≤ y) (hy2 : y < ht) : winY0 p q r s wd ht ≤ y + mv q r x ∧ y + mv q r x < winY1 p q r s wd ht := by
  have := mv_btw (b := q) (c := r) (x := winX0 p s ht) (y := x) (z := winX1 p s wd ht - 1) hx (by omega)
  unfold winY0 winY1
  omega
theorem thrC_zero {W H C : Int} {n n2 : Nat} {p q r s wd ht m : Int} (h : thrC W H C n n2 p q r s wd ht m = 0) : checkC W H C n = 0 ∧ slC n2 p q r s = 0 ∧ fitsC wd ht 1 = 0 ∧ modeC m = 0 ∧ largeB (winX0 p s ht) 0 (winX1 p s wd ht) ht = false ∧ largeB (winX0 p s ht) (winY0 p q r s wd ht) (winX1 p s wd ht) (winY1 p q r s wd ht) = false := by
  unfold thrC pick4 at h
  by_cases h0 : checkC W H C n = 0
  · rw [if_neg (by simp [h0])] at h
    by_cases h1 : slC n2 p q r s = 0
    · rw [if_neg (by simp [h1])] at h
      by_cases h2 : fitsC wd ht 1 = 0
      · rw [if_neg (by simp [h2])] at h
        by_cases h3 : modeC m = 0
        · rw [if_neg (by simp [h3])] at h
          refine ⟨h0, h1, h2, h3, ?_⟩
          split at h
          · cases h
          · rename_i hg
            simp only [Bool.or_eq_true, not_or, Bool.not_eq_true] at hg
            exact hg
        · rw [if_pos h3] at h; exact absurd h h3
      · rw [if_pos h2] at h; exact absurd h h2
    · rw [if_pos h1] at h; exact absurd h h1
  · rw [if_pos h0] at h; exact absurd h h0
theorem fitsC_of {w h c : Int} (hc : c = 1 ∨ c = 3 ∨ c = 4) (h1 : 1 ≤ w ∧ w ≤ 32768) (h2 : 1 ≤ h ∧ h ≤ 32768) (h3 : w * h ≤ 4194304) : fitsC w h c = 0 := by
  unfold fitsC
  rw [if_neg (by omega), if_neg (by rintro (h | h | ⟨_, _, h⟩) <;> omega), if_neg (by omega)]
theorem checkC_of {w h c : Int} {n : Nat} (hf : fitsC w h c = 0) (hn : (n : Int) = w * h * c) : checkC w h c n = 0 := by
  unfold checkC
  rw [if_neg (by rintro ⟨_, h⟩; exact h hn)]; exact hf
theorem canC_of {W H C : Int} {n : Nat} {a b c d p r s x0 y0 x1 y1 : Int} (h0 : checkC W H C n = 0) (ha : ¬ emptyR a b c d) (hW : c - a = W) (hH : d - b = H) (kp : bdI 262144 p) (kr : bdI 32768 r) (ks : bdI 32768 s) (he : ¬ emptyR x0 y0 x1 y1) (hl : largeB x0 y0 x1 y1 = false) : canC W H C n a b c d p r s x0 y0 x1 y1 = 0 := by
  have hr : rightR a b c d := Classical.byContradiction fun h => ha (.inl h)
  have h1 : atB W H a b c d = true := by unfold atB; exact decide_eq_true ⟨hr, hW, hH⟩
  have h2 : okS p r s = true := okS_iff.2 ⟨kp, kr, ks⟩
  unfold canC
  rw [if_neg (by simp [h0]), if_neg (by simp [h1]), if_neg, if_neg (by simp [hl])]
  rintro (h | h)
  · rw [h2] at h; cases h
  · exact he h
set_option maxHeartbeats 1000000 in
theorem warp_right (W H : Int) (C : Nat) (A A2 : Option Addr) (n cp c2 : Nat) (P : List Int) (m a b c d p q r s : Int) (wd ht : Nat) (w : World) {B : Nat} (hC : C4 w B A2 p q r s) (hB : B ≤ w.heap.size)
    (hz : thrC W H C n 4 p q r s wd ht m = 0) (hP : P.length = n) (hr : Rd w B A (P.map (Value.int .u8))) (hcp : n ≤ cp) :
    Calls Try.prog 18 #[imgV W H C A n cp, .slice A2 4 c2, .int .i64 wd, .int .i64 ht, bordV m a b c d] w fun e w' =>
      ∃ v, e = .returned (okV wd ht C v) ∧ w'.ownsRow w.heap.size 5 1 v (wd * ht * C) ((rwB P W H C m a b c d p q r s wd (wd * ht)).map (Value.int .u8)) ∧ Below w.heap.size w w' := by
  obtain ⟨z0, z1, z2, z3, z4, z5⟩ := thrC_zero hz
  obtain ⟨_, kp, kq, kr, ks⟩ := slC_zero z1
  obtain ⟨_, f2, f3, f4, f5, f6⟩ := fitsC_ok z2
  obtain ⟨g1, g2⟩ := check_parts z0
  obtain ⟨hc, i1, i2, i3, i4, _⟩ := fitsC_ok g1
  have hC4 : C ≤ 4 := by omega
  have kW : WinOk p q r s wd ht := ⟨kp, kq, kr, ks, by omega, by omega⟩
  obtain ⟨b0, b1, b2, b3, b4, b5⟩ := kW.bd
  have hX := kW.across
  have hY := kW.along
  have hwin : Win p q r s wd ht (winX0 p s ht) (winX1 p s wd ht) (winY0 p q r s wd ht) (winY1 p q r s wd ht) := ⟨rfl, rfl, rfl, rfl⟩
  have hthr : ThrOk W H C n m p q r s wd ht (winX0 p s ht) (winX1 p s wd ht) (winY0 p q r s wd ht) (winY1 p q r s wd ht) := ⟨z0, z1, z2, z3, hwin, z4, z5⟩
  generalize winX0 p s ht = X0 at *
  generalize winX1 p s wd ht = X1 at *
  generalize winY0 p q r s wd ht = Y0 at *
  generalize winY1 p q r s wd ht = Y1 at *
  obtain ⟨w1, hw1⟩ : ∃ w1 : Nat, X0 + w1 = X1 := ⟨(X1 - X0).toNat, by omega⟩
  obtain ⟨h1, hh1⟩ : ∃ h1 : Nat, Y0 + h1 = Y1 := ⟨(Y1 - Y0).toNat, by omega⟩
  have ne1 : ¬ emptyR X0 0 X1 ht := by
    rintro (h | h | h)
    · exact h ⟨⟨by omega, by omega⟩, ⟨by omega, by omega⟩, ⟨by omega, by omega⟩, ⟨by omega, by omega⟩⟩
    · omega
    · omega
  have ne2 : ¬ emptyR X0 Y0 X1 Y1 := by
    rintro (h | h | h)
    · exact h ⟨⟨by omega, by omega⟩, ⟨by omega, by omega⟩, ⟨by omega, by omega⟩, ⟨by omega, by omega⟩⟩
    · omega
    · omega
  have ne3 : ¬ emptyR 0 0 (wd : Int) (ht : Int) := by
    rintro (h | h | h)
    · exact h ⟨⟨by omega, by omega⟩, ⟨by omega, by omega⟩, ⟨by omega, by omega⟩, ⟨by omega, by omega⟩⟩
    · omega
    · omega
  obtain ⟨s1, s2, s3, s4, s5, s6⟩ := small_of (C := C) ne1 z4 hw1 (by omega : (0 : Int) + ht = ht) hC4
  obtain ⟨t1, t2, t3, t4, t5, t6⟩ := small_of (C := C) ne2 z5 hw1 hh1 hC4
  have c1 : checkC w1 h1 C (h1 * w1 * C) = 0 := checkC_of (fitsC_of hc ⟨by omega, by omega⟩ ⟨by omega, by omega⟩ (by rw [← Int.natCast_mul, Nat.mul_comm]; omega)) (by rw [Int.natCast_mul, Int.natCast_mul, Int.mul_comm (h1 : Int)])
  have c2' : checkC w1 ht C (ht * w1 * C) = 0 := checkC_of (fitsC_of hc ⟨by omega, by omega⟩ ⟨by omega, by omega⟩ (by rw [← Int.natCast_mul, Nat.mul_comm]; omega)) (by rw [Int.natCast_mul, Int.natCast_mul, Int.mul_comm (ht : Int)])
  have hl3 : largeB 0 0 (wd : Int) (ht : Int) = false := by
    have e : ¬ 9223372036854775807 / (ht : Int) < wd := by
      have : (281474976710655 : Int) ≤ 9223372036854775807 / ht := Int.le_ediv_of_mul_le (by omega) (by omega)
      omega
    unfold largeB areaR
    rw [if_neg ne3, Int.sub_zero, Int.sub_zero, if_neg e, IntWalk.wrap64_in _ ⟨by omega, by omega⟩, IntWalk.wrap64_in _ ⟨by omega, by omega⟩]
    simp only [Bool.or_eq_false_iff, decide_eq_false_iff_not]
    omega
  have hc1 : canC w1 h1 C (h1 * w1 * C) X0 Y0 X1 Y1 q r s X0 0 X1 ht = 0 := canC_of c1 ne2 (by omega) (by omega) kq kr ks ne1 z4
  have hc2 : canC w1 ht C (ht * w1 * C) X0 0 X1 ht p r s 0 0 wd ht = 0 := canC_of c2' ne1 (by omega) (by omega) kp kr ks ne3 hl3
  have ho1 : ∀ t ∈ plsP X0 0 w1 ht, hasB X0 Y0 X1 Y1 t.1.1 (t.1.2 + mv q r t.1.1) = true := by
    intro t htm
    obtain ⟨i, j, hi, hj, rfl⟩ := plsP_mem _ _ _ _ t htm
    rw [mkP_eq ⟨⟨by omega, by omega⟩, by omega, by omega⟩]
    have := hY (X0 + i) (0 + j) (by omega) (by omega) (by omega) (by omega)
    exact hasB_yes ne2 (by omega) (by omega) this.1 this.2
  have ho2 : ∀ t ∈ plsP 0 0 wd ht, hasB X0 0 X1 ht (t.1.1 + mv p s t.1.2) t.1.2 = true := by
    intro t htm
    obtain ⟨i, j, hi, hj, rfl⟩ := plsP_mem _ _ _ _ t htm
    rw [mkP_eq ⟨⟨by omega, by omega⟩, by omega, by omega⟩]
    have := hX (0 + i) (0 + j) (by omega) (by omega) (by omega) (by omega)
    exact hasB_yes ne1 this.1 this.2 (by omega) (by omega)
  have hlen := fun (x y : Int) => pxl_len (P := P) (W := W) (H := H) (C := C) (m := m) (a := a) (b := b) (c := c) (d := d) (x := x) (y := y) hP g2 ⟨i1, i2⟩ ⟨i3, i4⟩ hC4
  have hone := three_one (fun x y => pxl P W H C m a b c d x y) C (fun y => mv p s y) (fun x => mv q r x) X0 Y0 w1 h1 wd ht hlen ⟨by omega, by omega⟩ ⟨by omega, by omega⟩ (by omega) (by omega)
    (fun x y a b c d => by have := hX x y a b c d; omega) (fun x y a b c d => by have := hY x y a (by omega) c d; omega)
  rw [plsP_range wd ht (by omega)] at hone
  have heq : (List.range (wd * ht)).flatMap (fun i => (fun t : PT => pxl P W H C m a b c d (t.1.1 + mv p s t.1.2 + mv p s (t.1.2 + mv q r (t.1.1 + mv p s t.1.2))) (t.1.2 + mv q r (t.1.1 + mv p s t.1.2))) (mkP (((i % wd : Nat) : Int)) (((i / wd : Nat) : Int)))) = rwB P W H C m a b c d p q r s wd (wd * ht) := by
    unfold rwB
    refine flat_congr fun i hi => ?_
    have hi2 : i < wd * ht := List.mem_range.1 hi
    have e1 : i % wd < wd := Nat.mod_lt _ (by omega)
    have e2 : i / wd < ht := Nat.div_lt_of_lt_mul hi2
    have e3 : (0 : Int) ≤ ((i % wd : Nat) : Int) := Int.natCast_nonneg _
    have e4 : (0 : Int) ≤ ((i / wd : Nat) : Int) := Int.natCast_nonneg _
    have e5 : ((i % wd : Nat) : Int) < 32768 := by omega
    have e6 : ((i / wd : Nat) : Int) < 32768 := by omega
    simp only
    unfold pX pY
    generalize ((i % wd : Nat) : Int) = xx at *
    generalize ((i / wd : Nat) : Int) = yy at *
    rw [mkP_eq ⟨⟨by omega, by omega⟩, by omega, by omega⟩]
  refine (warp_ok W H C A A2 n cp c2 P m a b c d p q r s X0 X1 Y0 Y1 wd ht w1 h1 w hC hB hthr hP hr hcp hw1 hh1 kp ks ne2 t6 hc1 ho1 hc2 ho2).mono ?_
  rintro e w' ⟨v, h1', h2', h3'⟩
  refine ⟨v, h1', ?_, h3'⟩
  rw [show wd * ht * C = ht * wd * C by rw [Nat.mul_comm wd ht], ← heq, ← hone]
  exact h2'
end Go.Proofs.Ytpcjoalbhicccaa
