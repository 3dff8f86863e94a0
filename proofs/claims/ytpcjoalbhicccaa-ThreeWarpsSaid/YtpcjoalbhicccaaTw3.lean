/- The reference's image, pixel by pixel. -/
import Derived.Test.YtpcjoalbhicccaaTw2
import Derived.Test.YtpcjoalbhicccaaTh21
import Derived.Lib.QuietBelow
import Derived.BigQuiet
import Derived.Deep.QuietTactic
set_option linter.unusedVariables false
namespace Go.Proofs.Ytpcjoalbhicccaa
open Go.RowKit
theorem quiet_belowW {P : Program} {f : FuncId} {args : Array Value} {w : World} {d : Nat} {os : Array Obj} {v : Value} (h : Calls P f args (Go.Sort.grow (redrawn w d) os) fun e w' => e = .returned v ∧ Below (Go.Sort.grow (redrawn w d) os).heap.size (Go.Sort.grow (redrawn w d) os) w') :
    Calls P f args (Go.Sort.grow (redrawn w d) os) fun e w'' => e = .returned v ∧ ∃ p : Regrown, w'' = Go.Sort.grow (redrawn w p.d) p.os := Calls.regrown_of h
/-- The first k pixels' bytes. -/
def rwB (P : List Int) (W H : Int) (C : Nat) (m a b c d p q r s : Int) (wd k : Nat) : List Int :=
  (List.range k).flatMap (fun i => pxl P W H C m a b c d (pX p q r s ((i % wd : Nat) : Int) ((i / wd : Nat) : Int)) (pY p q r s ((i % wd : Nat) : Int) ((i / wd : Nat) : Int)))
theorem rwB_succ (P : List Int) (W H : Int) (C : Nat) (m a b c d p q r s : Int) (wd k : Nat) : rwB P W H C m a b c d p q r s wd (k + 1) = rwB P W H C m a b c d p q r s wd k ++ pxl P W H C m a b c d (pX p q r s ((k % wd : Nat) : Int) ((k / wd : Nat) : Int)) (pY p q r s ((k % wd : Nat) : Int) ((k / wd : Nat) : Int)) := by
  unfold rwB
  rw [List.range_succ, List.flatMap_append]
  simp
theorem p_bd {p q r s x y : Int} (kp : bdI 262144 p) (kq : bdI 262144 q) (kr : bdI 32768 r) (ks : bdI 32768 s) (hx : bdI 32768 x) (hy : bdI 32768 y) : bdI 9007199254740992 (pX p q r s x y) ∧ bdI 9007199254740992 (pY p q r s x y) := by
  have g2 := mv_bd2 kp ks (y := y) ⟨by omega, by omega⟩
  unfold pX pY
  generalize mv p s y = a1 at *
  obtain ⟨g3, g4⟩ := mv_bd kq kr (y := x + a1) ⟨by omega, by omega⟩
  generalize mv q r (x + a1) = a2 at *
  have g5 := mulb kp.1 kp.2 (show -(34360131072 : Int) ≤ y + a2 - s by omega) (show y + a2 - s ≤ 34360131072 by omega)
  have g6 : -4503599627370496 ≤ mv p s (y + a2) ∧ mv p s (y + a2) ≤ 4503599627370496 := by unfold mv rnd; omega
  omega
set_option maxRecDepth 100000 in
set_option maxHeartbeats 8000000 in
theorem rwarp_any (W H : Int) (C : Nat) (A A2 : Option Addr) (n cp c2 : Nat) (P : List Int) (m a b c d p q r s : Int) (wd ht : Nat) (w : World) {B : Nat} (hC : C4 w B A2 p q r s) (hB : B ≤ w.heap.size) (h : checkC W H C n = 0) (hP : P.length = n) (hr : Rd w B A (P.map (Value.int .u8))) (hcp : n ≤ cp)
    (kp : bdI 262144 p) (kq : bdI 262144 q) (kr : bdI 32768 r) (ks : bdI 32768 s) (hwd : 1 ≤ wd ∧ wd ≤ 60) (hht : 1 ≤ ht ∧ ht ≤ 60) :
    Calls Try.prog 21 #[imgV W H C A n cp, .slice A2 4 c2, .int .i64 wd, .int .i64 ht, bordV m a b c d] w fun e w' => ∃ v, e = .returned (.agg #[.int .i64 wd, .int .i64 ht, .int .i64 C, v]) ∧
      w'.ownsRow w.heap.size 5 1 v (wd * ht * C) ((rwB P W H C m a b c d p q r s wd (wd * ht)).map (Value.int .u8)) ∧ Below w.heap.size w w' := by
  obtain ⟨hf1, hf2⟩ := check_parts h
  obtain ⟨hc, hw1, hw2, hh1, hh2, hp⟩ := fitsC_ok hf1
  have hC4 : C ≤ 4 := by omega
  have hlen := fun (x y : Int) => pxl_len (P := P) (W := W) (H := H) (C := C) (m := m) (a := a) (b := b) (c := c) (d := d) (x := x) (y := y) hP hf2 ⟨hw1, hw2⟩ ⟨hh1, hh2⟩ hC4
  have HLEN := Lib.hid hlen
  have HCHK := Lib.hid h
  have HPP := Lib.hid hP
  have hT : wd * ht ≤ 3600 := by
    have := Nat.mul_le_mul hwd.2 hht.2; omega
  have hTC : wd * ht * C ≤ 14400 := by
    have := Nat.mul_le_mul hT hC4; omega
  have hTw : wrap64 ((wd : Int) * (ht : Int)) = ((wd * ht : Nat) : Int) := by
    rw [Int.natCast_mul]; exact IntWalk.wrap64_in _ ⟨by rw [← Int.natCast_mul]; omega, by rw [← Int.natCast_mul]; omega⟩
  obtain ⟨T, hTd⟩ : ∃ T, T = wd * ht := ⟨_, rfl⟩
  rw [← hTd] at hT hTC hTw
  have HTD := Lib.hid hTd
  rw [← hTd]
  have hL := (((Lie.start w).alloc #[.int .i64 W, .int .i64 H, .int .i64 C, .slice A n cp] 24).alloc #[.int .i64 m, .int .u8 a, .int .u8 b, .int .u8 c, .int .u8 d] 42).alloc #[.int .i64 0, .int .i64 0, .int .i64 0, .slice none 0 0] 24
  simp only [World.size_alloc] at hL
  clear hTd hc hw1 hw2 hh1 hh2 hp hf1 hf2 hlen h hP
  go_enter Try.func21, Try.ntmps21
  go_wp2_with fail
  go_loopw [11, 12] (fun v i wr => ∃ k : Nat, k ≤ T ∧ i = .int .i64 k ∧ wr.ownsRow (w.heap.size + 1 + 1 + 1) 5 1 v (k * C) ((rwB P W H C m a b c d p q r s wd k).map (Value.int .u8)) ∧ w.heap.size + 1 + 1 + 1 ≤ wr.heap.size ∧ Lie w [(w.heap.size + 1 + 1, 24, #[.int .i64 0, .int .i64 0, .int .i64 0, .slice none 0 0]), (w.heap.size + 1, 42, #[.int .i64 m, .int .u8 a, .int .u8 b, .int .u8 c, .int .u8 d]), (w.heap.size, 24, #[.int .i64 W, .int .i64 H, .int .i64 C, .slice A n cp])] wr) (fun _ i _ => T - (intOf i).toNat)
  case atStart => exact ⟨0, by omega, rfl, by rw [Nat.zero_mul]; exact World.ownsRow_nil _ _ _ _, by simp, hL⟩
  case round =>
    clear hL
    obtain ⟨k, hk, rfl, hown, hsz, hL⟩ := hrel
    by_cases hlt : k < T
    · have e1 : k % wd < wd := Nat.mod_lt _ (by omega)
      have e2 : k / wd < ht := Nat.div_lt_of_lt_mul (by rw [← HTD.out]; exact hlt)
      have e3 : (0 : Int) ≤ ((k % wd : Nat) : Int) ∧ ((k % wd : Nat) : Int) < 60 := ⟨Int.natCast_nonneg _, by omega⟩
      have e4 : (0 : Int) ≤ ((k / wd : Nat) : Int) ∧ ((k / wd : Nat) : Int) < 60 := ⟨Int.natCast_nonneg _, by omega⟩
      have hbl := hL.bel
      have hC5 := hC.below hbl hB
      have hB5 := Nat.le_trans hB hbl.size
      have hPx := fun (n : Nat) (os : Array Obj) => pix22_any A2 c2 p q r s ((k % wd : Nat) : Int) ((k / wd : Nat) : Int) (Go.Sort.grow (redrawn wr n) os) (hC5.below ((below_regrown wr n os).mono hB5) (Nat.le_refl _)) (Nat.le_trans hB5 (below_regrown wr n os).size) kp kq kr ks ⟨by omega, by omega⟩ ⟨by omega, by omega⟩
      obtain ⟨g1, g2⟩ := p_bd (p := p) (q := q) (r := r) (s := s) (x := ((k % wd : Nat) : Int)) (y := ((k / wd : Nat) : Int)) kp kq kr ks ⟨by omega, by omega⟩ ⟨by omega, by omega⟩
      have HS := Lib.hid (rwB_succ P W H C m a b c d p q r s wd k)
      have hm1 : Int.tmod (k : Int) (wd : Int) = ((k % wd : Nat) : Int) := by rw [Int.tmod_eq_emod_of_nonneg (by omega)]; omega
      have hm2 : Int.tdiv (k : Int) (wd : Int) = ((k / wd : Nat) : Int) := by rw [Int.tdiv_eq_ediv_of_nonneg (by omega)]; omega
      generalize ((k % wd : Nat) : Int) = xx at *
      generalize ((k / wd : Nat) : Int) = yy at *
      have w1 : wrap64 yy = yy := IntWalk.wrap64_in _ ⟨by omega, by omega⟩
      have w2 : wrap64 xx = xx := IntWalk.wrap64_in _ ⟨by omega, by omega⟩
      generalize pX p q r s xx yy = X at *
      generalize pY p q r s xx yy = Y at *
      go_upto_region 5 with fail
      refine wp_region_quiet_below (by kernel_rfl) (by kernel_rfl) ?_
      repeat (first | go_big_quiet_step ((first | with_reducible exact quiet_belowW (hPx _ _))) | quiet_step ((first | with_reducible exact quiet_belowW (hPx _ _))))
      refine wpQuiet_nil ?_
      intro _ hw'
      obtain ⟨⟨d9, os⟩, hw''⟩ := hw'
      subst hw''
      have hbx := below_regrown wr d9 os
      generalize Go.Sort.grow (redrawn wr d9) os = wx at *
      have hownx := own_below hown hbx (Nat.le_refl _)
      have hLx := hL.nx hbx
      have hszx := hbx.size
      obtain ⟨i0, i1, i2, i3⟩ := (hLx.k 2 (by simp)).cell4
      obtain ⟨d0, d1, d2, d3, d4⟩ := bord_cells (hLx.k 1 (by simp))
      simp only [List.getElem_cons_zero, List.getElem_cons_succ] at i0 i1 i2 i3 d0 d1 d2 d3 d4
      have hPix := rpixel_any W H C A n cp P m a b c d X Y wx HCHK.out HPP.out (hLx.rd hr hB) (Nat.le_trans hB hLx.sz) hcp ⟨by omega, by omega⟩ ⟨by omega, by omega⟩
      have HL1 := Lib.hid (HLEN.out X Y)
      generalize pxl P W H C m a b c d X Y = px at *
      clear hPx hC5 hB5 hbl hown hL hbx hm1 hm2 w1 w2 e3 e4 g1 g2
      go_wp2_with fail
      refine hPix.mono ?_
      rintro e w4 ⟨v4, rfl, hown4, hb4⟩
      obtain ⟨A4, c4, rfl, _, _, hr4, _⟩ := own_form hown4
      have hL4 := hLx.nx hb4
      have hownx4 := own_below hownx hb4 (Nat.le_refl _)
      have hz4 := hb4.size
      have hkC : k * C + C ≤ 14400 := by
        have h1 : (k + 1) * C ≤ T * C := Nat.mul_le_mul_right _ hlt
        rw [Nat.add_mul, Nat.one_mul] at h1; omega
      have HKC := Lib.hid hkC
      clear hkC i0 i1 i2 i3 d0 d1 d2 d3 d4 hPix hownx hLx
      have hb40 : Below w.heap.size w w4 := hL4.bel
      go_wp2_with (at_builtin; refine appR rfl _ _ _ rfl Try.underlying22 u8_info rfl (by omega) rfl rfl hownx4 hb40 (by omega) (by omega) hr4 (by simp [HL1.out]) (intsL _) (by have := HKC.out; omega) (by have := HKC.out; omega) ?_; intro v' w9 hown9 hb9 hz9 hg9 _; have hge := own_ge hownx4; clear hownx4)
      refine ⟨⟨k + 1, by omega, by go_num, ?_, by omega, ?_⟩, by simp [intOf]; omega⟩
      · rw [HS.out, List.map_append, show (k + 1) * C = k * C + C by rw [Nat.add_mul, Nat.one_mul]]
        exact hown9
      · refine ⟨hb9, fun q hq => (hL4.2 q hq).grown hg9 (fun e => ?_)⟩
        have := hge _ e.symm
        simp at hq
        rcases hq with rfl | rfl | rfl <;> simp at this <;> omega
    · obtain rfl : k = T := by omega
      obtain ⟨i0, i1, i2, i3⟩ := (hL.k 2 (by simp)).cell4
      simp only [List.getElem_cons_zero, List.getElem_cons_succ] at i0 i1 i2 i3
      obtain ⟨A9, c9, rfl, _, _, _, _⟩ := own_form hown
      go_wp2_with fail
      refine (made_any wd ht C A9 (k * C) c9 _).mono ?_
      rintro e w5 ⟨rfl, hb5⟩
      have hL5 := hL.nx hb5
      have kz : Bk w5 (w.heap.size + 1 + 1) 24 #[.int .i64 0, .int .i64 0, .int .i64 0, .slice none 0 0] := hL5.k 0 (by simp)
      have hown5 := own_below hown hb5 (Nat.le_refl _)
      have hz5 := hb5.size
      go_wp2_with (refine stImg rfl _ _ rfl kz rfl rfl rfl ?_; intro w6 k6 hg6 _)
      refine bodyPost_ret (res_img rfl k6 rfl) rfl ?_
      refine ⟨_, rfl, ?_, below_of_gb hL5.bel hg6 (by omega) hL5.sz⟩
      exact own_base (own_kept2 hown5 hg6 (by omega)) (by omega)
end Go.Proofs.Ytpcjoalbhicccaa
