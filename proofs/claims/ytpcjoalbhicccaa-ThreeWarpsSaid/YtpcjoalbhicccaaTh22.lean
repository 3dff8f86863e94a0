/- The first pass: an image, and what stands beyond it. -/
import Derived.Test.YtpcjoalbhicccaaTh21
import Derived.Laws.EntriesVeiled
set_option linter.unusedVariables false
namespace Go.Proofs.Ytpcjoalbhicccaa
open Go.RowKit Go.Shelf
attribute [local go_sem] Oper.semAt_some
theorem bord_cells {w : World} {g : Nat} {t : TypeId} {c0 c1 c2 c3 c4 : Value} (h : Bk w g t #[c0, c1, c2, c3, c4]) :
    w.cell? ⟨g, 0, none⟩ = some c0 ∧ w.cell? ⟨g, 1, none⟩ = some c1 ∧ w.cell? ⟨g, 2, none⟩ = some c2 ∧ w.cell? ⟨g, 3, none⟩ = some c3 ∧ w.cell? ⟨g, 4, none⟩ = some c4 :=
  ⟨by rw [h.cell]; rfl, by rw [h.cell]; rfl, by rw [h.cell]; rfl, by rw [h.cell]; rfl, by rw [h.cell]; rfl⟩
theorem set8 {w : World} {g : Nat} {t : TypeId} {c0 c1 c2 c3 c4 c5 c6 c7 : Value} (h : Bk w g t #[c0, c1, c2, c3, c4, c5, c6, c7]) (d0 d1 d2 d3 d4 d5 d6 d7 : Value) :
    Bk ((((((((w.setCell ⟨g, 0, none⟩ d0).setCell ⟨g, 1, none⟩ d1).setCell ⟨g, 2, none⟩ d2).setCell ⟨g, 3, none⟩ d3).setCell ⟨g, 4, none⟩ d4).setCell ⟨g, 5, none⟩ d5).setCell ⟨g, 6, none⟩ d6).setCell ⟨g, 7, none⟩ d7) g t #[d0, d1, d2, d3, d4, d5, d6, d7] ∧
    w.grownBy ((((((((w.setCell ⟨g, 0, none⟩ d0).setCell ⟨g, 1, none⟩ d1).setCell ⟨g, 2, none⟩ d2).setCell ⟨g, 3, none⟩ d3).setCell ⟨g, 4, none⟩ d4).setCell ⟨g, 5, none⟩ d5).setCell ⟨g, 6, none⟩ d6).setCell ⟨g, 7, none⟩ d7) (some g) :=
  ⟨by simpa using (((((((h.set 0 d0).set 1 d1).set 2 d2).set 3 d3).set 4 d4).set 5 d5).set 6 d6).set 7 d7,
   gb_setCell (g := g) (p := ⟨g, 7, none⟩) (gb_setCell (g := g) (p := ⟨g, 6, none⟩) (gb_setCell (g := g) (p := ⟨g, 5, none⟩) (gb_setCell (g := g) (p := ⟨g, 4, none⟩) (gb4 w g d0 d1 d2 d3) (.inl rfl) d4) (.inl rfl) d5) (.inl rfl) d6) (.inl rfl) d7⟩
set_option maxRecDepth 100000 in
set_option maxHeartbeats 4000000 in
theorem source_any (W H : Int) (C : Nat) (A : Option Addr) (n cp : Nat) (P : List Int) (m a b c d x0 y0 x1 y1 p r s : Int) (wd ht : Nat) (w : World) {B : Nat} (h : checkC W H C n = 0) (hm : modeC m = 0) (hP : P.length = n) (hr : Rd w B A (P.map (Value.int .u8))) (hB : B ≤ w.heap.size) (hcp : n ≤ cp)
    (kp : bdI 262144 p) (ks : bdI 32768 s) (hto : ¬ emptyR x0 y0 x1 y1) (hwd : x0 + wd = x1) (hht : y0 + ht = y1) (hsm : (ht * wd) * C ≤ 17179869184) :
    Calls Try.prog 38 #[imgV W H C A n cp, sl3 p r s, bordV m a b c d, rect4 x0 y0 x1 y1] w fun e w' =>
      ∃ v, e = .returned (.agg #[.int .i64 wd, .int .i64 ht, .int .i64 C, v, .int .i64 x0, .int .i64 y0, .int .i64 x1, .int .i64 y1]) ∧ w'.ownsRow w.heap.size 5 1 v (ht * wd * C) (((plsP x0 y0 wd ht).flatMap (fun q => pxl P W H C m a b c d (q.1.1 + mv p s q.1.2) q.1.2)).map (Value.int .u8)) ∧ Below w.heap.size w w' := by
  have HSM := Lib.hid hsm
  clear hsm
  have hr4 : rightR x0 y0 x1 y1 := by
    by_cases h : rightR x0 y0 x1 y1
    · exact h
    · exact absurd (.inl h) hto
  have ww1 : wrap64 (x1 - x0) = (wd : Int) := by rw [wsub hr4.2.2.1 hr4.1]; omega
  have ww2 : wrap64 (y1 - y0) = (ht : Int) := by rw [wsub hr4.2.2.2 hr4.2.1]; omega
  refine (callsIn_wide (n := 8)).1 ?_
  refine callsIn_of_wp_marks Try.func38 rfl trivial ?_ rfl
  simp only [Try.ntmps38, List.size_toArray, List.length_nil, List.length_cons, Nat.reduceAdd, Nat.reduceSub, Array.replicate_succ, Array.replicate_zero, List.push_toArray, List.append_toArray, List.nil_append, List.cons_append]
  gi_wp2_with (refine ⟨trivial, ?_⟩; gi_at_call 49; refine (callsIn_wide.2 (places_any _ _ _ _ _ hto)).mono ?_; rintro e w1 ⟨rfl, hKP, hb1⟩)
  obtain ⟨k0, k1, k2, k3, k4, k5, hbz, hs6⟩ := allocs6 w #[.int .i64 W, .int .i64 H, .int .i64 C, .slice A n cp] #[.int .i64 p, .int .i64 r, .int .i64 s] #[.int .i64 m, .int .u8 a, .int .u8 b, .int .u8 c, .int .u8 d] (rectA x0 y0 x1 y1) #[.int .i64 0, .int .i64 0, .int .i64 0, .slice none 0 0, .int .i64 0, .int .i64 0, .int .i64 0, .int .i64 0] #[.int .i64 (x1 - x0), .int .i64 (y1 - y0), .int .i64 C, .slice none 0 0] 24 59 42 26 57 24
  generalize hW6 : (((((w.alloc (.cells #[.int .i64 W, .int .i64 H, .int .i64 C, .slice A n cp] 24)).alloc (.cells #[.int .i64 p, .int .i64 r, .int .i64 s] 59)).alloc (.cells #[.int .i64 m, .int .u8 a, .int .u8 b, .int .u8 c, .int .u8 d] 42)).alloc (.cells (rectA x0 y0 x1 y1) 26)).alloc (.cells #[.int .i64 0, .int .i64 0, .int .i64 0, .slice none 0 0, .int .i64 0, .int .i64 0, .int .i64 0, .int .i64 0] 57)).alloc (.cells #[.int .i64 (x1 - x0), .int .i64 (y1 - y0), .int .i64 C, .slice none 0 0] 24) = W6 at *
  clear hW6
  have k6 := Bk.new W6 62 #[.func (.func 25) #[sl3 p r s] #[]]
  replace k0 := (k0.alloc (.cells #[.func (.func 25) #[sl3 p r s] #[]] 62)).nx hb1
  replace k2 := (k2.alloc (.cells #[.func (.func 25) #[sl3 p r s] #[]] 62)).nx hb1
  replace k3 := (k3.alloc (.cells #[.func (.func 25) #[sl3 p r s] #[]] 62)).nx hb1
  replace k4 := (k4.alloc (.cells #[.func (.func 25) #[sl3 p r s] #[]] 62)).nx hb1
  replace k5 := (k5.alloc (.cells #[.func (.func 25) #[sl3 p r s] #[]] 62)).nx hb1
  replace k6 := k6.nx hb1
  have hbz1 := (hbz.alloc hbz.size (.cells #[.func (.func 25) #[sl3 p r s] #[]] 62)).trans (hb1.mono (by simp; omega))
  simp only [World.size_alloc] at hKP
  rw [hs6] at hKP k6
  have hlt6 := hKP.lt
  clear k1 hb1 ww1 ww2
  simp only [Nat.add_assoc, Nat.reduceAdd] at hKP k6 hlt6 ⊢
  obtain ⟨hf1, hf2⟩ := check_parts h
  obtain ⟨hc, hw1, hw2, hh1, hh2, hp⟩ := fitsC_ok hf1
  have hC4 : 1 ≤ C ∧ C ≤ 4 := by omega
  refine' wpIn_rangeFunc_ownF rfl (by omega) (gf := 63) (lb := #[.pointer (some ⟨w.heap.size + 7, 0, none⟩)]) (by first | rfl | (rw [hs6]; rfl) | simp [hs6]) trivial (enters_of Try.func63 (by kernel_rfl) rfl)
    (places_stops Fence.wide _ trivial rfl (by omega) (w.heap.size + 7) x0 y0 x1 y1 wd ht hwd hht hr4 w1 hKP) (fun h k => KpB.t h k) (KpB.b hlt6) (Below.refl _ _) (fun _ => rfl)
    (PInv w [(w.heap.size, 24, #[.int .i64 W, .int .i64 H, .int .i64 C, .slice A n cp]), (w.heap.size + 2, 42, #[.int .i64 m, .int .u8 a, .int .u8 b, .int .u8 c, .int .u8 d]), (w.heap.size + 3, 26, rectA x0 y0 x1 y1), (w.heap.size + 4, 57, #[.int .i64 0, .int .i64 0, .int .i64 0, .slice none 0 0, .int .i64 0, .int .i64 0, .int .i64 0, .int .i64 0]), (w.heap.size + 6, 62, #[.func (.func 25) #[sl3 p r s] #[]])] (w.heap.size + 8) (w.heap.size + 5) (x1 - x0) (y1 - y0) C (fun _ => True) (fun q => pxl P W H C m a b c d (q.1.1 + mv p s q.1.2) q.1.2))
    (fun _ _ _ => False)
    (pinv_own (by omega) (by omega)) (fun c => fun _ _ _ _ hs _ _ => hs) ?h0 _ ?assign ?body ?done ?stop
  case assign =>
    intro l x W K hK
    simp only [encP]
    gi_wp2
    exact hK
  case h0 =>
    refine ⟨fun x hx => ?_, ⟨.slice none 0 0, k5, by simpa using World.ownsRow_nil _ _ _ _⟩, by simp, hbz1, by omega, by omega, fun x hx => ?_⟩
    · simp only [List.mem_cons, List.not_mem_nil, or_false] at hx
      rcases hx with rfl | rfl | rfl | rfl | rfl
      · exact ⟨by show w.heap.size < _; omega, k0⟩
      · exact ⟨by show w.heap.size + 2 < _; omega, k2⟩
      · exact ⟨by show w.heap.size + 3 < _; omega, k3⟩
      · exact ⟨by show w.heap.size + 4 < _; omega, k4⟩
      · exact ⟨by show w.heap.size + 6 < _; omega, k6⟩
    · simp only [List.mem_cons, List.not_mem_nil, or_false] at hx
      rcases hx with rfl | rfl | rfl | rfl | rfl
      · show w.heap.size ≠ _; omega
      · show w.heap.size + 2 ≠ _; omega
      · show w.heap.size + 3 ≠ _; omega
      · show w.heap.size + 4 ≠ _; omega
      · show w.heap.size + 6 ≠ _; omega
  case body =>
    rintro l pre x W' hI hlen
    obtain ⟨v, hKo, hown⟩ := hI.img
    have q0 : Bk W' w.heap.size 24 #[.int .i64 W, .int .i64 H, .int .i64 C, .slice A n cp] := (hI.fb (w.heap.size, 24, #[.int .i64 W, .int .i64 H, .int .i64 C, .slice A n cp]) (by simp)).2
    have q2 : Bk W' (w.heap.size + 2) 42 #[.int .i64 m, .int .u8 a, .int .u8 b, .int .u8 c, .int .u8 d] := (hI.fb (w.heap.size + 2, 42, #[.int .i64 m, .int .u8 a, .int .u8 b, .int .u8 c, .int .u8 d]) (by simp)).2
    have q6 : Bk W' (w.heap.size + 6) 62 #[.func (.func 25) #[sl3 p r s] #[]] := (hI.fb (w.heap.size + 6, 62, #[.func (.func 25) #[sl3 p r s] #[]]) (by simp)).2
    have hbW := hI.bel
    have hsW := hI.sz
    clear k0 k2 k3 k4 k5 k6 hKP
    obtain ⟨⟨xx, xy⟩, hxx, hxy⟩ := x
    have hfc := q6.cell1
    dsimp only at hxx hxy
    have hmb := (mv_bd kp ks hxy).2
    have hux : -9223372036854775808 < xx + mv p s xy ∧ xx + mv p s xy ≤ 9223372036854775807 := by omega
    have hvx : -9223372036854775808 < xy ∧ xy ≤ 9223372036854775807 := by omega
    have hpc : pre.length * C + C ≤ 17179869184 := by
      have h1 : (pre.length + 1) * C ≤ (ht * wd) * C := Nat.mul_le_mul_right _ (by omega)
      have := HSM.out
      rw [Nat.add_mul] at h1
      omega
    have hpl := pxl_len (m := m) (a := a) (b := b) (c := c) (d := d) (x := xx + mv p s xy) (y := xy) hP hf2 ⟨hw1, hw2⟩ ⟨hh1, hh2⟩ hC4.2
    have hpix := fun (w' : World) (hr' : Rd w' B A (P.map (Value.int .u8))) (hB' : B ≤ w'.heap.size) => pixel_any W H C A n cp P m a b c d (xx + mv p s xy) xy w' h hm hP hr' hB' hcp hux hvx
    have hfrom := from_any p r s xx xy W' kp ks hxy hxx
    have HX := Lib.hid (show (fun q : PT => pxl P W H C m a b c d (q.1.1 + mv p s q.1.2) q.1.2) ⟨(xx, xy), hxx, hxy⟩ = pxl P W H C m a b c d (xx + mv p s xy) xy from rfl)
    generalize pxl P W H C m a b c d (xx + mv p s xy) xy = X at *
    have HPC := Lib.hid hpc
    have HPL := Lib.hid hpl
    obtain ⟨i8, hi8, hz8, hs8, hby8⟩ := info_parts u8_info
    generalize hU : xx + mv p s xy = U at *
    clear hU hpc hpl hf2 hf1 hc hp hmb hux hvx HSM
    gi_wp2_with (first
      | (refine ⟨trivial, ?_⟩; gi_at_call 25; refine (CallsIn.inRound l (callsIn_wide.2 hfrom)).mono ?_; rintro e wf ⟨rfl, hbf⟩; obtain ⟨e0, e1, e2, e3⟩ := (q0.nx hbf).cell4; obtain ⟨d0, d1, d2, d3, d4⟩ := bord_cells (q2.nx hbf); have hrf : Rd wf B A (P.map (Value.int .u8)) := hr.below' (hbW.trans (hbf.mono (by omega))) hB; have hBf : B ≤ wf.heap.size := (by have := hbf.size; omega))
      | (refine ⟨trivial, ?_⟩; gi_at_call 55; refine (CallsIn.inRound l (callsIn_wide.2 (hpix _ hrf hBf))).mono ?_; rintro e wp ⟨g, rfl, hg, hKg, hbp⟩; have hbe := hbf.trans (hbp.mono hbf.size); have hze := hbe.size; have hKoh := hKo.nx hbe; have hownh := own_below hown hbe (Nat.le_refl _); obtain ⟨i80, i81, i82, i83⟩ := hKoh.cell4)
      | (gi_at_builtin; refine wpListIn_append_own _ rfl _ _ 22 rfl (w.heap.size + 8) 5 i8 (.int .u8 0) 1 1 Try.underlying22 hi8 hz8 hs8 hby8 rfl (by omega) v (pre.length * C) _ rfl hownh ⟨g, 0, none⟩ C C (X.map (Value.int .u8)) rfl (by rw [List.length_map, HPL.out]; omega) (fun j u hj => by rw [addo, Nat.zero_add, hKg.cell]; simpa using hj) (intsL _) (by have := HPC.out; simp [maxLen]; omega) (by have := HPC.out; omega) (by omega) ?_; intro v' w9 hown9 hg9 _; obtain ⟨A9, c9, rfl, _, _, _, _⟩ := own_form hown9; have hKo9 := hKoh.grown hg9 (fun e => by have := own_ge hownh _ e.symm; omega); obtain ⟨i90, i91, i92, i93⟩ := hKo9.cell4; have f93 := hKo9.frozen 3; clear i80 i81 i82 i83))
    rw [← HX.out] at hown9
    exact pinv_step hI hKo hown trivial hbe hg9 hown9 (by omega) (by omega) (by omega)
  case done =>
    rintro D ys W9 hD rfl hI hK
    obtain ⟨v, hKo, hown⟩ := hI.img
    have q3 : Bk W9 (w.heap.size + 3) 26 (rectA x0 y0 x1 y1) := (hI.fb (w.heap.size + 3, 26, rectA x0 y0 x1 y1) (by simp)).2
    have q4 : Bk W9 (w.heap.size + 4) 57 #[.int .i64 0, .int .i64 0, .int .i64 0, .slice none 0 0, .int .i64 0, .int .i64 0, .int .i64 0, .int .i64 0] := (hI.fb (w.heap.size + 4, 57, #[.int .i64 0, .int .i64 0, .int .i64 0, .slice none 0 0, .int .i64 0, .int .i64 0, .int .i64 0, .int .i64 0]) (by simp)).2
    have hbW := hI.bel
    have hsz := hI.sz
    rw [plsP_len] at hown
    obtain ⟨A9, c9, rfl, _, _, _, _⟩ := own_form hown
    obtain ⟨t0, t1, t2, t3⟩ := hKo.cell4
    obtain ⟨r0, r1, r2, r3⟩ := q3.cell4
    obtain ⟨s0, s1, s2, s3, s4, s5, s6, s7⟩ := can_cells q4
    have f0 := q4.frozen 0
    have f1 := q4.frozen 1
    have f2 := q4.frozen 2
    have f3 := q4.frozen 3
    have f4 := q4.frozen 4
    have f5 := q4.frozen 5
    have f6 := q4.frozen 6
    have f7 := q4.frozen 7
    gi_wp2
    obtain ⟨b4, g4⟩ := set8 q4 (.int .i64 (x1 - x0)) (.int .i64 (y1 - y0)) (.int .i64 C) (.slice A9 (ht * wd * C) c9) (.int .i64 x0) (.int .i64 y0) (.int .i64 x1) (.int .i64 y1)
    have hKO := KeepsOthers.of_grownBy g4 (fun j o e ho => by
      have : w.heap.size + 4 = j := by injection e
      subst this
      rw [show W9.heap[w.heap.size + 4]? = _ from q4] at ho
      cases ho
      rfl)
    have hK' := hKO.same D _ hK rfl
    have b4' := b4.grown (grownBy_putObj' _ D (.deferred none)) (fun e => by injection e with e; omega)
    have o9 := own_kept' (own_kept2 hown g4 (by omega)) (grownBy_putObj' _ D (.deferred none)) (fun r e => by cases e; exact ⟨_, hK', rfl⟩)
    have hbf := (below_of_gb hbW g4 (by omega) hbW.size).grown (grownBy_putObj' _ D (.deferred none)) (Nat.le_trans hbW.size hKO.size) (fun k e => by injection e with e; omega)
    refine ⟨by simp, .inl ⟨_, _, rfl, run_takeDeferred hK', ?_⟩⟩
    refine ⟨_, res_cell rfl b4' rfl Try.underlying57 rfl can_size, .slice A9 (ht * wd * C) c9, ?_, own_base o9 (by omega), hbf⟩
    rw [show x1 - x0 = (wd : Int) by omega, show y1 - y0 = (ht : Int) by omega]
  case stop =>
    rintro D c' pre W9 hD hpre hX hK
    exact hX.elim
end Go.Proofs.Ytpcjoalbhicccaa
