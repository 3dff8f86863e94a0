/- A pass of the reference that there is none of. -/
import Derived.Test.YtpcjoalbhicccaaTh29a
set_option linter.unusedVariables false
namespace Go.Proofs.Ytpcjoalbhicccaa
open Go.RowKit
set_option maxRecDepth 100000 in
set_option maxHeartbeats 40000000 in
theorem rpass_bad (al : Bool) (W H C : Int) (A : Option Addr) (n cp : Nat) (a b c d p r s x0 y0 x1 y1 : Int) (w : World) (h : canC W H C n a b c d p r s x0 y0 x1 y1 ≠ 0) :
    Calls Try.prog 11 #[.bool al, .agg #[.int .i64 W, .int .i64 H, .int .i64 C, .slice A n cp], rect4 a b c d, .int .i64 p, .int .i64 r, .int .i64 s, rect4 x0 y0 x1 y1] w fun e w' => e = .returned (badV (canC W H C n a b c d p r s x0 y0 x1 y1)) ∧ Below w.heap.size w w' := by
  have HH := Lib.hid h
  clear h
  go_enter Try.func11, Try.ntmps11
  obtain ⟨k8, k9, k13, k14, hbz, hs4⟩ := allocs4 w #[.int .i64 W, .int .i64 H, .int .i64 C, .slice A n cp] (rectA a b c d) (rectA x0 y0 x1 y1) #[.int .i64 0, .int .i64 0, .int .i64 0, .slice none 0 0] 24 26 26 24
  go_wp2_with fail
  refine (rcheck_any W H C A n cp _).mono ?_
  rintro e w1 ⟨rfl, hb1⟩
  replace k8 := k8.nx hb1
  replace k9 := k9.nx hb1
  replace k13 := k13.nx hb1
  replace k14 := k14.nx hb1
  have hbz1 := hbz.trans (hb1.mono (by simp <;> omega))
  clear hb1 hbz hs4
  obtain ⟨e0, e1, e2, e3⟩ := k8.cell4
  obtain ⟨a0, a1, a2, a3⟩ := k9.cell4
  by_cases h0 : checkC W H C n = 0
  · have hb0 : (checkC W H C n != 0) = false := by simpa using h0
    have H0 := Lib.hid h0
    clear h0
    cases hat : atB W H a b c d
    · have HC := Lib.hid (canC_2 (p := p) (r := r) (s := s) (x0 := x0) (y0 := y0) (x1 := x1) (y1 := y1) H0.out hat)
      have hat' : ¬ (rightR a b c d ∧ c - a = W ∧ d - b = H) := by unfold atB at hat; simpa using hat
      by_cases hr : rightR a b c d
      · have hd : decide (rightR a b c d) = true := decide_eq_true hr
        have v1 : wrap64 (c - a) = c - a := wsub hr.2.2.1 hr.1
        have v2 : wrap64 (d - b) = d - b := wsub hr.2.2.2 hr.2.1
        have hcd : ¬ (c - a = W) ∨ ((c - a = W) ∧ ¬ (d - b = H)) := by
          by_cases h1 : c - a = W
          · exact .inr ⟨h1, fun h2 => hat' ⟨hr, h1, h2⟩⟩
          · exact .inl h1
        clear hat hat' hr
        rcases hcd with g1 | ⟨g1, g2⟩
        · have hg : (c - a != W) = true := by simpa using g1
          go_wp2_with (first
            | (go_at_call 28; (with_reducible refine (rright_any a b c d _).mono ?_); rintro e w2 ⟨rfl, hb2⟩; rw [hd]; have hbz2 := hbz1.trans (hb2.mono hbz1.size); have k82 := k8.nx hb2; have k92 := k9.nx hb2; have k132 := k13.nx hb2; have k142 := k14.nx hb2; obtain ⟨f0, f1, f2, f3⟩ := k82.cell4; obtain ⟨d0, d1, d2, d3⟩ := k92.cell4; obtain ⟨t0, t1, t2, t3⟩ := k132.cell4)
            | (refine stImg rfl _ _ rfl k142 rfl rfl rfl ?_; intro w9 k149 hg9 _))
          refine bodyPost_ret (res_img_tmp rfl k149 rfl) rfl ?_
          rw [HC.out]
          exact ⟨rfl, below_of_gb hbz2 hg9 (by omega) hbz2.size⟩
        · have hg : (c - a != W) = false := by simpa using g1
          have hg2 : (d - b != H) = true := by simpa using g2
          clear g1 g2
          go_wp2_with (first
            | (go_at_call 28; (with_reducible refine (rright_any a b c d _).mono ?_); rintro e w2 ⟨rfl, hb2⟩; rw [hd]; have hbz2 := hbz1.trans (hb2.mono hbz1.size); have k82 := k8.nx hb2; have k92 := k9.nx hb2; have k132 := k13.nx hb2; have k142 := k14.nx hb2; obtain ⟨f0, f1, f2, f3⟩ := k82.cell4; obtain ⟨d0, d1, d2, d3⟩ := k92.cell4; obtain ⟨t0, t1, t2, t3⟩ := k132.cell4)
            | (refine stImg rfl _ _ rfl k142 rfl rfl rfl ?_; intro w9 k149 hg9 _))
          refine bodyPost_ret (res_img_tmp rfl k149 rfl) rfl ?_
          rw [HC.out]
          exact ⟨rfl, below_of_gb hbz2 hg9 (by omega) hbz2.size⟩
      · have hd : decide (rightR a b c d) = false := decide_eq_false hr
        clear hat hat' hr
        go_wp2_with (first
          | (go_at_call 28; (with_reducible refine (rright_any a b c d _).mono ?_); rintro e w2 ⟨rfl, hb2⟩; rw [hd]; have hbz2 := hbz1.trans (hb2.mono hbz1.size); have k82 := k8.nx hb2; have k92 := k9.nx hb2; have k132 := k13.nx hb2; have k142 := k14.nx hb2; obtain ⟨f0, f1, f2, f3⟩ := k82.cell4; obtain ⟨d0, d1, d2, d3⟩ := k92.cell4; obtain ⟨t0, t1, t2, t3⟩ := k132.cell4)
          | (refine stImg rfl _ _ rfl k142 rfl rfl rfl ?_; intro w9 k149 hg9 _))
        refine bodyPost_ret (res_img_tmp rfl k149 rfl) rfl ?_
        rw [HC.out]
        exact ⟨rfl, below_of_gb hbz2 hg9 (by omega) hbz2.size⟩
    · have hat' : rightR a b c d ∧ c - a = W ∧ d - b = H := by unfold atB at hat; simpa using hat
      have HAT := Lib.hid hat
      obtain ⟨hr, g1, g2⟩ := hat'
      have hd : decide (rightR a b c d) = true := decide_eq_true hr
      have v1 : wrap64 (c - a) = c - a := wsub hr.2.2.1 hr.1
      have v2 : wrap64 (d - b) = d - b := wsub hr.2.2.2 hr.2.1
      have hg : (c - a != W) = false := by simpa using g1
      have hg2 : (d - b != H) = false := by simpa using g2
      clear hat hr g1 g2
      cases hok : okS p r s
      · have HC := Lib.hid (canC_3 H0.out HAT.out (.inl hok : okS p r s = false ∨ emptyR x0 y0 x1 y1))
        cases i1 : inB p 262144
        · clear hok
          go_wp2_with (first
            | (go_at_call 28; (with_reducible refine (rright_any a b c d _).mono ?_); rintro e w2 ⟨rfl, hb2⟩; rw [hd]; have hbz2 := hbz1.trans (hb2.mono hbz1.size); have k82 := k8.nx hb2; have k92 := k9.nx hb2; have k132 := k13.nx hb2; have k142 := k14.nx hb2; obtain ⟨f0, f1, f2, f3⟩ := k82.cell4; obtain ⟨d0, d1, d2, d3⟩ := k92.cell4; obtain ⟨t0, t1, t2, t3⟩ := k132.cell4)
            | (go_at_call 29; (with_reducible refine (in18_any _ _ _ (by decide) (by decide)).mono ?_); rintro e w' ⟨rfl, rfl⟩)
            | (refine stImg rfl _ _ rfl k142 rfl rfl rfl ?_; intro w9 k149 hg9 _))
          refine bodyPost_ret (res_img_tmp rfl k149 rfl) rfl ?_
          rw [HC.out]
          exact ⟨rfl, below_of_gb hbz2 hg9 (by omega) hbz2.size⟩
        · cases i2 : inB r 32768
          · clear hok
            go_wp2_with (first
              | (go_at_call 28; (with_reducible refine (rright_any a b c d _).mono ?_); rintro e w2 ⟨rfl, hb2⟩; rw [hd]; have hbz2 := hbz1.trans (hb2.mono hbz1.size); have k82 := k8.nx hb2; have k92 := k9.nx hb2; have k132 := k13.nx hb2; have k142 := k14.nx hb2; obtain ⟨f0, f1, f2, f3⟩ := k82.cell4; obtain ⟨d0, d1, d2, d3⟩ := k92.cell4; obtain ⟨t0, t1, t2, t3⟩ := k132.cell4)
              | (go_at_call 29; (with_reducible refine (in18_any _ _ _ (by decide) (by decide)).mono ?_); rintro e w' ⟨rfl, rfl⟩)
              | (refine stImg rfl _ _ rfl k142 rfl rfl rfl ?_; intro w9 k149 hg9 _))
            refine bodyPost_ret (res_img_tmp rfl k149 rfl) rfl ?_
            rw [HC.out]
            exact ⟨rfl, below_of_gb hbz2 hg9 (by omega) hbz2.size⟩
          · cases i3 : inB s 32768
            · clear hok
              go_wp2_with (first
                | (go_at_call 28; (with_reducible refine (rright_any a b c d _).mono ?_); rintro e w2 ⟨rfl, hb2⟩; rw [hd]; have hbz2 := hbz1.trans (hb2.mono hbz1.size); have k82 := k8.nx hb2; have k92 := k9.nx hb2; have k132 := k13.nx hb2; have k142 := k14.nx hb2; obtain ⟨f0, f1, f2, f3⟩ := k82.cell4; obtain ⟨d0, d1, d2, d3⟩ := k92.cell4; obtain ⟨t0, t1, t2, t3⟩ := k132.cell4)
                | (go_at_call 29; (with_reducible refine (in18_any _ _ _ (by decide) (by decide)).mono ?_); rintro e w' ⟨rfl, rfl⟩)
                | (refine stImg rfl _ _ rfl k142 rfl rfl rfl ?_; intro w9 k149 hg9 _))
              refine bodyPost_ret (res_img_tmp rfl k149 rfl) rfl ?_
              rw [HC.out]
              exact ⟨rfl, below_of_gb hbz2 hg9 (by omega) hbz2.size⟩
            · exfalso
              unfold okS at hok
              rw [i1, i2, i3] at hok
              simp at hok
      · have i1 : inB p 262144 = true := by unfold okS at hok; simp only [Bool.and_eq_true] at hok; exact hok.1
        have i2 : inB r 32768 = true := by unfold okS at hok; simp only [Bool.and_eq_true] at hok; exact hok.2.1
        have i3 : inB s 32768 = true := by unfold okS at hok; simp only [Bool.and_eq_true] at hok; exact hok.2.2
        have HOK := Lib.hid hok
        clear hok
        by_cases he : emptyR x0 y0 x1 y1
        · have HC := Lib.hid (canC_3 (p := p) (r := r) (s := s) H0.out HAT.out (.inr he))
          have hz : (areaR x0 y0 x1 y1 == 0) = true := by simpa using (area_zero _ _ _ _).2 he
          clear he
          go_wp2_with (first
            | (go_at_call 28; (with_reducible refine (rright_any a b c d _).mono ?_); rintro e w2 ⟨rfl, hb2⟩; rw [hd]; have hbz2 := hbz1.trans (hb2.mono hbz1.size); have k82 := k8.nx hb2; have k92 := k9.nx hb2; have k132 := k13.nx hb2; have k142 := k14.nx hb2; obtain ⟨f0, f1, f2, f3⟩ := k82.cell4; obtain ⟨d0, d1, d2, d3⟩ := k92.cell4; obtain ⟨t0, t1, t2, t3⟩ := k132.cell4)
            | (go_at_call 29; (with_reducible refine (in18_any _ _ _ (by decide) (by decide)).mono ?_); rintro e w' ⟨rfl, rfl⟩)
            | (go_at_call 7; (with_reducible refine (rarea_any x0 y0 x1 y1 _).mono ?_); rintro e w3 ⟨rfl, hb3⟩; have hbz3 := hbz2.trans (hb3.mono hbz2.size); have k133 := k132.nx hb3; have k143 := k142.nx hb3; clear t0 t1 t2 t3; obtain ⟨t0, t1, t2, t3⟩ := k133.cell4)
            | (refine stImg rfl _ _ rfl k143 rfl rfl rfl ?_; intro w9 k149 hg9 _))
          refine bodyPost_ret (res_img_tmp rfl k149 rfl) rfl ?_
          rw [HC.out]
          exact ⟨rfl, below_of_gb hbz3 hg9 (by omega) hbz3.size⟩
        · have HC := Lib.hid (canC_4 H0.out HAT.out HOK.out he)
          have hz : (areaR x0 y0 x1 y1 == 0) = false := by
            have : areaR x0 y0 x1 y1 ≠ 0 := fun e => he ((area_zero _ _ _ _).1 e)
            simpa using this
          clear he
          cases hlg : largeB x0 y0 x1 y1
          · exact absurd (by rw [HC.out, hlg]; simp) HH.out
          · rw [hlg, if_pos rfl] at HC
            go_wp2_with (first
              | (go_at_call 28; (with_reducible refine (rright_any a b c d _).mono ?_); rintro e w2 ⟨rfl, hb2⟩; rw [hd]; have hbz2 := hbz1.trans (hb2.mono hbz1.size); have k82 := k8.nx hb2; have k92 := k9.nx hb2; have k132 := k13.nx hb2; have k142 := k14.nx hb2; obtain ⟨f0, f1, f2, f3⟩ := k82.cell4; obtain ⟨d0, d1, d2, d3⟩ := k92.cell4; obtain ⟨t0, t1, t2, t3⟩ := k132.cell4)
              | (go_at_call 29; (with_reducible refine (in18_any _ _ _ (by decide) (by decide)).mono ?_); rintro e w' ⟨rfl, rfl⟩)
              | (go_at_call 7; (with_reducible refine (rarea_any x0 y0 x1 y1 _).mono ?_); rintro e w3 ⟨rfl, hb3⟩; have hbz3 := hbz2.trans (hb3.mono hbz2.size); have k133 := k132.nx hb3; have k143 := k142.nx hb3; clear t0 t1 t2 t3; obtain ⟨t0, t1, t2, t3⟩ := k133.cell4)
              | (go_at_call 8; (with_reducible refine (rlarge_any x0 y0 x1 y1 _).mono ?_); rintro e w4 ⟨rfl, hb4⟩; rw [hlg]; have hbz4 := hbz3.trans (hb4.mono hbz3.size); have k144 := k143.nx hb4)
              | (refine stImg rfl _ _ rfl k144 rfl rfl rfl ?_; intro w9 k149 hg9 _))
            refine bodyPost_ret (res_img_tmp rfl k149 rfl) rfl ?_
            rw [HC.out]
            exact ⟨rfl, below_of_gb hbz4 hg9 (by omega) hbz4.size⟩
  · have hb0 : (checkC W H C n != 0) = true := by simpa using h0
    have hc : canC W H C n a b c d p r s x0 y0 x1 y1 = checkC W H C n := by unfold canC; rw [if_pos h0]
    have HC := Lib.hid hc
    clear h0 hc
    go_wp2_with (refine stImg rfl _ _ rfl k14 rfl rfl rfl ?_; intro w2 k142 hg2 _)
    refine bodyPost_ret (res_img_tmp rfl k142 rfl) rfl ?_
    rw [HC.out]
    exact ⟨rfl, below_of_gb hbz1 hg2 (by omega) hbz1.size⟩
end Go.Proofs.Ytpcjoalbhicccaa
