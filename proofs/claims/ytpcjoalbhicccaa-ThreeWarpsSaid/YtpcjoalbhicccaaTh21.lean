/- Passes across, and along. -/
import Derived.Test.YtpcjoalbhicccaaTh17
import Derived.Test.YtpcjoalbhicccaaTh19
import Derived.Test.YtpcjoalbhicccaaTh20
import Derived.Test.YtpcjoalbhicccaaRow
set_option linter.unusedVariables false
namespace Go.Proofs.Ytpcjoalbhicccaa
open Go.RowKit
theorem can_size : (Try.prog.info? 57).map (·.size) = some 8 := by kernel_rfl
structure CanOk (W H : Int) (C : Nat) (n : Nat) (a b c d p r s x0 y0 x1 y1 : Int) : Prop where
  chk : checkC W H C n = 0
  rt : rightR a b c d
  w : c - a = W
  h : d - b = H
  kp : bdI 262144 p
  kr : bdI 32768 r
  ks : bdI 32768 s
  ne : ¬ emptyR x0 y0 x1 y1
  lg : largeB x0 y0 x1 y1 = false
theorem canC_ok {W H : Int} {C n : Nat} {a b c d p r s x0 y0 x1 y1 : Int} (h : canC W H C n a b c d p r s x0 y0 x1 y1 = 0) : CanOk W H C n a b c d p r s x0 y0 x1 y1 := by
  unfold canC at h
  split at h
  · omega
  · rename_i h1
    split at h
    · omega
    · rename_i h2
      split at h
      · omega
      · rename_i h3
        split at h
        · omega
        · rename_i h4
          have h2' : atB W H a b c d = true := by simpa using h2
          unfold atB at h2'
          obtain ⟨k1, k2, k3⟩ := of_decide_eq_true h2'
          have hs : okS p r s = true := by
            cases ho : okS p r s
            · exact absurd (.inl ho) h3
            · rfl
          obtain ⟨k4, k5, k6⟩ := okS_iff.1 hs
          exact ⟨by omega, k1, k2, k3, k4, k5, k6, fun he => h3 (.inr he), by simpa using h4⟩
theorem small_of {x0 y0 x1 y1 : Int} {wd ht C : Nat} (hne : ¬ emptyR x0 y0 x1 y1) (hlg : largeB x0 y0 x1 y1 = false) (hwd : x0 + wd = x1) (hht : y0 + ht = y1) (hC : C ≤ 4) : wd ≤ 32768 ∧ ht ≤ 32768 ∧ ht * wd ≤ 4194304 ∧ 1 ≤ wd ∧ 1 ≤ ht ∧ (ht * wd) * C ≤ 17179869184 := by
  obtain ⟨W, H, e1, e2, h1, h2, h3, h4, w1, w2, h5, h6, h7, h8⟩ := areaR_mul hne
  unfold largeB at hlg
  simp only [Bool.or_eq_false_iff, decide_eq_false_iff_not] at hlg
  obtain ⟨l1, l2, l3⟩ := hlg
  rw [w1] at l1
  rw [w2] at l2
  unfold areaR at l3
  rw [if_neg hne, e1, e2] at l3
  have hW : W = (wd : Int) := by omega
  have hH : H = (ht : Int) := by omega
  subst hW
  subst hH
  have hm : ht * wd ≤ 4194304 := by
    split at l3
    · omega
    · have e : ((ht * wd : Nat) : Int) = (wd : Int) * ht := by rw [Int.natCast_mul, Int.mul_comm]
      omega
  refine ⟨by omega, by omega, hm, by omega, by omega, ?_⟩
  have := Nat.mul_le_mul hm hC
  omega
theorem own_kept2 {w w' : World} {base n size g : Nat} {e : TypeId} {v : Value} {xs : List Value} (h : w.ownsRow base e size v n xs) (hg : w.grownBy w' (some g)) (hr : g < base) : w'.ownsRow base e size v n xs :=
  h.kept hg (by
    cases hv : v.ownBlock with
    | none => exact .inl rfl
    | some k => exact .inr (fun e => by have := own_ge h k hv; injection e with e; omega))
abbrev okV (W H : Int) (C : Nat) (v : Value) : Value := .tuple #[.agg #[.int .i64 W, .int .i64 H, .int .i64 C, v], .int .i64 0]
abbrev badV (z : Int) : Value := .tuple #[.agg #[.int .i64 0, .int .i64 0, .int .i64 0, .slice none 0 0], .int .i64 z]
set_option maxRecDepth 100000 in
set_option maxHeartbeats 4000000 in
theorem across_bad (W H C : Int) (A : Option Addr) (n cp : Nat) (a b c d p r s x0 y0 x1 y1 : Int) (w : World) (h : canC W H C n a b c d p r s x0 y0 x1 y1 ≠ 0) :
    Calls Try.prog 9 #[.agg #[.int .i64 W, .int .i64 H, .int .i64 C, .slice A n cp], rect4 a b c d, .int .i64 p, .int .i64 r, .int .i64 s, rect4 x0 y0 x1 y1] w fun e w' => e = .returned (.tuple #[.agg #[.int .i64 0, .int .i64 0, .int .i64 0, .slice none 0 0], .int .i64 (canC W H C n a b c d p r s x0 y0 x1 y1)]) ∧ Below w.heap.size w w' := by
  have hb0 : (canC W H C n a b c d p r s x0 y0 x1 y1 != 0) = true := by simpa using h
  clear h
  go_enter Try.func9, Try.ntmps9
  obtain ⟨k6, k7, k11, k12, k14, k15, hbz, hs6⟩ := allocs6 w #[.int .i64 W, .int .i64 H, .int .i64 C, .slice A n cp] (rectA a b c d) (rectA x0 y0 x1 y1) #[.int .i64 0, .int .i64 0, .int .i64 0, .slice none 0 0] #[.int .i64 W, .int .i64 H, .int .i64 C, .slice A n cp, .int .i64 a, .int .i64 b, .int .i64 c, .int .i64 d] #[.int .i64 p, .int .i64 r, .int .i64 s] 24 26 26 24 57 59
  go_wp2_with fail
  refine (ccheck_any W H C A n cp a b c d p r s x0 y0 x1 y1 _).mono ?_
  rintro e w1 ⟨rfl, hb1⟩
  have k12' := k12.nx hb1
  have hbz1 := hbz.trans (hb1.mono (by simp <;> omega))
  have hz1 := hb1.size
  rw [hs6] at hz1
  clear k6 k7 k11 k14 k15 hb1
  go_wp2_with (refine stImg rfl _ _ rfl k12' rfl rfl rfl ?_; intro w2 k12'' hg2 _)
  refine bodyPost_ret (res_img_tmp rfl k12'' rfl) rfl ?_
  exact ⟨rfl, below_of_gb hbz1 hg2 (by omega) hbz1.size⟩
set_option maxRecDepth 100000 in
set_option maxHeartbeats 4000000 in
theorem across_ok (W H : Int) (C : Nat) (A : Option Addr) (n cp : Nat) (P : List Int) (a b c d p r s x0 y0 x1 y1 : Int) (wd ht : Nat) (w : World) {B : Nat} (h : canC W H C n a b c d p r s x0 y0 x1 y1 = 0) (hP : P.length = n) (hr : Rd w B A (P.map (Value.int .u8))) (hB : B ≤ w.heap.size) (hcp : n ≤ cp) (hwd : x0 + wd = x1) (hht : y0 + ht = y1) :
    Calls Try.prog 9 #[.agg #[.int .i64 W, .int .i64 H, .int .i64 C, .slice A n cp], rect4 a b c d, .int .i64 p, .int .i64 r, .int .i64 s, rect4 x0 y0 x1 y1] w fun e w' =>
      (∃ v, e = .returned (okV wd ht C v) ∧ (∀ q ∈ plsP x0 y0 wd ht, hasB a b c d (q.1.1 + mv p s q.1.2) q.1.2 = true) ∧ w'.ownsRow w.heap.size 5 1 v (ht * wd * C) ((outP P a b W C (fun q => (q.1.1 + mv p s q.1.2, q.1.2)) (plsP x0 y0 wd ht)).map (Value.int .u8)) ∧ Below w.heap.size w w') ∨
      (e = .returned (badV 11) ∧ (∃ q ∈ plsP x0 y0 wd ht, hasB a b c d (q.1.1 + mv p s q.1.2) q.1.2 = false) ∧ Below w.heap.size w w') := by
  have hb0 : (canC W H C n a b c d p r s x0 y0 x1 y1 != 0) = false := by simpa using h
  obtain ⟨g1, g2, g3, g4, g5, g6, g7, g8, g9⟩ := canC_ok h
  have HH := Lib.hid h
  obtain ⟨hf1, hf2⟩ := check_parts g1
  have hC4 : C ≤ 4 := by have := (fitsC_ok hf1).1; omega
  obtain ⟨_, _, _, _, _, hsm⟩ := small_of g8 g9 hwd hht hC4
  clear h hf1 hf2
  have hpass := fun (w' : World) (hr' : Rd w' B A (P.map (Value.int .u8))) (hB' : B ≤ w'.heap.size) => pass_from W H C A n cp P a b c d x0 y0 x1 y1 p r s wd ht w' g1 hP hr' hB' hcp g2 g3 g4 g5 g7 g6 g8 hwd hht hsm
  clear hsm hP hwd hht g1 g2 g3 g4 g5 g6 g7 g8 g9
  go_enter Try.func9, Try.ntmps9
  obtain ⟨k6, k7, k11, k12, k14, k15, hbz, hs6⟩ := allocs6 w #[.int .i64 W, .int .i64 H, .int .i64 C, .slice A n cp] (rectA a b c d) (rectA x0 y0 x1 y1) #[.int .i64 0, .int .i64 0, .int .i64 0, .slice none 0 0] #[.int .i64 W, .int .i64 H, .int .i64 C, .slice A n cp, .int .i64 a, .int .i64 b, .int .i64 c, .int .i64 d] #[.int .i64 p, .int .i64 r, .int .i64 s] 24 26 26 24 57 59
  go_wp2_with fail
  refine (ccheck_any W H C A n cp a b c d p r s x0 y0 x1 y1 _).mono ?_
  rintro e w1 ⟨rfl, hb1⟩
  have k11' := k11.nx hb1
  have k12' := k12.nx hb1
  have k14' := k14.nx hb1
  have k15' := k15.nx hb1
  have hbz1 := hbz.trans (hb1.mono (by simp <;> omega))
  have hz1 := hb1.size
  rw [hs6] at hz1
  clear k6 k7 k11 k12 k14 k15 hb1
  rw [HH.out]
  go_wp2_with (first
    | (refine ldB rfl 57 _ rfl k14' rfl Try.underlying57 rfl can_size ?_)
    | (refine ldRect rfl _ rfl k11' rfl ?_)
    | (refine ldB rfl 59 _ rfl k15' rfl Try.underlying59 rfl sl_size ?_))
  refine (hpass _ (hr.below' hbz1 hB) (Nat.le_trans hB hbz1.size)).mono ?_
  rintro e w2 h
  rcases h with ⟨v, rfl, hall, hown, hb2⟩ | ⟨rfl, hex, hb2⟩
  · obtain ⟨A9, c9, rfl, _, _, _, _⟩ := own_form hown
    have k12 := k12'.nx hb2
    have hbz2 := hbz1.trans (hb2.mono hbz1.size)
    go_wp2_with (refine stImg rfl _ _ rfl k12 rfl rfl rfl ?_; intro w3 k13 hg3 _)
    refine bodyPost_ret (res_img_tmp rfl k13 rfl) rfl ?_
    exact .inl ⟨.slice A9 (ht * wd * C) c9, rfl, hall, own_base (own_kept2 hown hg3 (by omega)) hbz1.size, below_of_gb hbz2 hg3 (by omega) hbz2.size⟩
  · have k12 := k12'.nx hb2
    have hbz2 := hbz1.trans (hb2.mono hbz1.size)
    go_wp2_with (refine stImg rfl _ _ rfl k12 rfl rfl rfl ?_; intro w3 k13 hg3 _)
    refine bodyPost_ret (res_img_tmp rfl k13 rfl) rfl ?_
    exact .inr ⟨rfl, hex, below_of_gb hbz2 hg3 (by omega) hbz2.size⟩
set_option maxRecDepth 100000 in
set_option maxHeartbeats 4000000 in
theorem along_bad (W H C : Int) (A : Option Addr) (n cp : Nat) (a b c d p r s x0 y0 x1 y1 : Int) (w : World) (h : canC W H C n a b c d p r s x0 y0 x1 y1 ≠ 0) :
    Calls Try.prog 10 #[.agg #[.int .i64 W, .int .i64 H, .int .i64 C, .slice A n cp], rect4 a b c d, .int .i64 p, .int .i64 r, .int .i64 s, rect4 x0 y0 x1 y1] w fun e w' => e = .returned (.tuple #[.agg #[.int .i64 0, .int .i64 0, .int .i64 0, .slice none 0 0], .int .i64 (canC W H C n a b c d p r s x0 y0 x1 y1)]) ∧ Below w.heap.size w w' := by
  have hb0 : (canC W H C n a b c d p r s x0 y0 x1 y1 != 0) = true := by simpa using h
  clear h
  go_enter Try.func10, Try.ntmps10
  obtain ⟨k6, k7, k11, k12, k14, k15, hbz, hs6⟩ := allocs6 w #[.int .i64 W, .int .i64 H, .int .i64 C, .slice A n cp] (rectA a b c d) (rectA x0 y0 x1 y1) #[.int .i64 0, .int .i64 0, .int .i64 0, .slice none 0 0] #[.int .i64 W, .int .i64 H, .int .i64 C, .slice A n cp, .int .i64 a, .int .i64 b, .int .i64 c, .int .i64 d] #[.int .i64 p, .int .i64 r, .int .i64 s] 24 26 26 24 57 59
  go_wp2_with fail
  refine (ccheck_any W H C A n cp a b c d p r s x0 y0 x1 y1 _).mono ?_
  rintro e w1 ⟨rfl, hb1⟩
  have k12' := k12.nx hb1
  have hbz1 := hbz.trans (hb1.mono (by simp <;> omega))
  have hz1 := hb1.size
  rw [hs6] at hz1
  clear k6 k7 k11 k14 k15 hb1
  go_wp2_with (refine stImg rfl _ _ rfl k12' rfl rfl rfl ?_; intro w2 k12'' hg2 _)
  refine bodyPost_ret (res_img_tmp rfl k12'' rfl) rfl ?_
  exact ⟨rfl, below_of_gb hbz1 hg2 (by omega) hbz1.size⟩
set_option maxRecDepth 100000 in
set_option maxHeartbeats 4000000 in
theorem along_ok (W H : Int) (C : Nat) (A : Option Addr) (n cp : Nat) (P : List Int) (a b c d p r s x0 y0 x1 y1 : Int) (wd ht : Nat) (w : World) {B : Nat} (h : canC W H C n a b c d p r s x0 y0 x1 y1 = 0) (hP : P.length = n) (hr : Rd w B A (P.map (Value.int .u8))) (hB : B ≤ w.heap.size) (hcp : n ≤ cp) (hwd : x0 + wd = x1) (hht : y0 + ht = y1) :
    Calls Try.prog 10 #[.agg #[.int .i64 W, .int .i64 H, .int .i64 C, .slice A n cp], rect4 a b c d, .int .i64 p, .int .i64 r, .int .i64 s, rect4 x0 y0 x1 y1] w fun e w' =>
      (∃ v, e = .returned (okV wd ht C v) ∧ (∀ q ∈ plsP x0 y0 wd ht, hasB a b c d q.1.1 (q.1.2 + mv p r q.1.1) = true) ∧ w'.ownsRow w.heap.size 5 1 v (ht * wd * C) ((outP P a b W C (fun q => (q.1.1, q.1.2 + mv p r q.1.1)) (plsP x0 y0 wd ht)).map (Value.int .u8)) ∧ Below w.heap.size w w') ∨
      (e = .returned (badV 11) ∧ (∃ q ∈ plsP x0 y0 wd ht, hasB a b c d q.1.1 (q.1.2 + mv p r q.1.1) = false) ∧ Below w.heap.size w w') := by
  have hb0 : (canC W H C n a b c d p r s x0 y0 x1 y1 != 0) = false := by simpa using h
  obtain ⟨g1, g2, g3, g4, g5, g6, g7, g8, g9⟩ := canC_ok h
  have HH := Lib.hid h
  obtain ⟨hf1, hf2⟩ := check_parts g1
  have hC4 : C ≤ 4 := by have := (fitsC_ok hf1).1; omega
  obtain ⟨_, _, _, _, _, hsm⟩ := small_of g8 g9 hwd hht hC4
  clear h hf1 hf2
  have hpass := fun (w' : World) (hr' : Rd w' B A (P.map (Value.int .u8))) (hB' : B ≤ w'.heap.size) => pass_down W H C A n cp P a b c d x0 y0 x1 y1 p r s wd ht w' g1 hP hr' hB' hcp g2 g3 g4 g5 g7 g6 g8 hwd hht hsm
  clear hsm hP hwd hht g1 g2 g3 g4 g5 g6 g7 g8 g9
  go_enter Try.func10, Try.ntmps10
  obtain ⟨k6, k7, k11, k12, k14, k15, hbz, hs6⟩ := allocs6 w #[.int .i64 W, .int .i64 H, .int .i64 C, .slice A n cp] (rectA a b c d) (rectA x0 y0 x1 y1) #[.int .i64 0, .int .i64 0, .int .i64 0, .slice none 0 0] #[.int .i64 W, .int .i64 H, .int .i64 C, .slice A n cp, .int .i64 a, .int .i64 b, .int .i64 c, .int .i64 d] #[.int .i64 p, .int .i64 r, .int .i64 s] 24 26 26 24 57 59
  go_wp2_with fail
  refine (ccheck_any W H C A n cp a b c d p r s x0 y0 x1 y1 _).mono ?_
  rintro e w1 ⟨rfl, hb1⟩
  have k11' := k11.nx hb1
  have k12' := k12.nx hb1
  have k14' := k14.nx hb1
  have k15' := k15.nx hb1
  have hbz1 := hbz.trans (hb1.mono (by simp <;> omega))
  have hz1 := hb1.size
  rw [hs6] at hz1
  clear k6 k7 k11 k12 k14 k15 hb1
  rw [HH.out]
  go_wp2_with (first
    | (refine ldB rfl 57 _ rfl k14' rfl Try.underlying57 rfl can_size ?_)
    | (refine ldRect rfl _ rfl k11' rfl ?_)
    | (refine ldB rfl 59 _ rfl k15' rfl Try.underlying59 rfl sl_size ?_))
  refine (hpass _ (hr.below' hbz1 hB) (Nat.le_trans hB hbz1.size)).mono ?_
  rintro e w2 h
  rcases h with ⟨v, rfl, hall, hown, hb2⟩ | ⟨rfl, hex, hb2⟩
  · obtain ⟨A9, c9, rfl, _, _, _, _⟩ := own_form hown
    have k12 := k12'.nx hb2
    have hbz2 := hbz1.trans (hb2.mono hbz1.size)
    go_wp2_with (refine stImg rfl _ _ rfl k12 rfl rfl rfl ?_; intro w3 k13 hg3 _)
    refine bodyPost_ret (res_img_tmp rfl k13 rfl) rfl ?_
    exact .inl ⟨.slice A9 (ht * wd * C) c9, rfl, hall, own_base (own_kept2 hown hg3 (by omega)) hbz1.size, below_of_gb hbz2 hg3 (by omega) hbz2.size⟩
  · have k12 := k12'.nx hb2
    have hbz2 := hbz1.trans (hb2.mono hbz1.size)
    go_wp2_with (refine stImg rfl _ _ rfl k12 rfl rfl rfl ?_; intro w3 k13 hg3 _)
    refine bodyPost_ret (res_img_tmp rfl k13 rfl) rfl ?_
    exact .inr ⟨rfl, hex, below_of_gb hbz2 hg3 (by omega) hbz2.size⟩
end Go.Proofs.Ytpcjoalbhicccaa
