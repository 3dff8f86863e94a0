/- A pass across: places of one canvas, from another. -/
import Derived.Test.YtpcjoalbhicccaaTh18
set_option linter.unusedVariables false
namespace Go.Proofs.Ytpcjoalbhicccaa
open Go.RowKit Go.Shelf
attribute [local go_sem] Oper.semAt_some
set_option maxRecDepth 100000 in
set_option maxHeartbeats 4000000 in
theorem pass_from (W H : Int) (C : Nat) (A : Option Addr) (n cp : Nat) (P : List Int) (a b c d x0 y0 x1 y1 p r s : Int) (wd ht : Nat) (w : World) {B : Nat} (h : checkC W H C n = 0) (hP : P.length = n) (hr : Rd w B A (P.map (Value.int .u8))) (hB : B ≤ w.heap.size) (hcp : n ≤ cp)
    (hat : rightR a b c d) (hatW : c - a = W) (hatH : d - b = H) (kp : bdI 262144 p) (ks : bdI 32768 s) (kr : bdI 32768 r) (hto : ¬ emptyR x0 y0 x1 y1) (hwd : x0 + wd = x1) (hht : y0 + ht = y1) (hsm : (ht * wd) * C ≤ 17179869184) :
    Calls Try.prog 24 #[.agg (canA W H C A n cp a b c d), rect4 x0 y0 x1 y1, .func (.func 25) #[sl3 p r s] #[]] w fun e w' =>
      (∃ v, e = .returned (.tuple #[.agg #[.int .i64 wd, .int .i64 ht, .int .i64 C, v], .int .i64 0]) ∧ (∀ q ∈ plsP x0 y0 wd ht, hasB a b c d (q.1.1 + mv p s q.1.2) q.1.2 = true) ∧ w'.ownsRow w.heap.size 5 1 v (ht * wd * C) ((outP P a b W C (fun q => (q.1.1 + mv p s q.1.2, q.1.2)) (plsP x0 y0 wd ht)).map (Value.int .u8)) ∧ Below w.heap.size w w') ∨
      (e = .returned (.tuple #[.agg #[.int .i64 0, .int .i64 0, .int .i64 0, .slice none 0 0], .int .i64 11]) ∧ (∃ q ∈ plsP x0 y0 wd ht, hasB a b c d (q.1.1 + mv p s q.1.2) q.1.2 = false) ∧ Below w.heap.size w w') := by
  have HSM := Lib.hid hsm
  clear hsm
  have hr4 : rightR x0 y0 x1 y1 := by
    by_cases h : rightR x0 y0 x1 y1
    · exact h
    · exact absurd (.inl h) hto
  have ww1 : wrap64 (x1 - x0) = (wd : Int) := by rw [wsub hr4.2.2.1 hr4.1]; omega
  have ww2 : wrap64 (y1 - y0) = (ht : Int) := by rw [wsub hr4.2.2.2 hr4.2.1]; omega
  refine (callsIn_wide (n := 8)).1 ?_
  refine callsIn_of_wp_marks Try.func24 rfl trivial ?_ rfl
  simp only [Try.ntmps24, List.size_toArray, List.length_nil, List.length_cons, Nat.reduceAdd, Nat.reduceSub, Array.replicate_succ, Array.replicate_zero, List.push_toArray, List.append_toArray, List.nil_append, List.cons_append]
  gi_wp2_with (refine ⟨trivial, ?_⟩; gi_at_call 49; refine (callsIn_wide.2 (places_any _ _ _ _ _ hto)).mono ?_; rintro e w1 ⟨rfl, hKP, hb1⟩)
  obtain ⟨k0, k1, k2, k3, k4, k5, hbz, hs6⟩ := allocs6 w (canA W H C A n cp a b c d) (rectA x0 y0 x1 y1) #[.func (.func 25) #[sl3 p r s] #[]] #[.int .i64 0, .int .i64 0, .int .i64 0, .slice none 0 0] #[.int .i64 0] #[.int .i64 (x1 - x0), .int .i64 (y1 - y0), .int .i64 C, .slice none 0 0] 57 26 62 24 32 24
  generalize hW6 : (((((w.alloc (.cells (canA W H C A n cp a b c d) 57)).alloc (.cells (rectA x0 y0 x1 y1) 26)).alloc (.cells #[.func (.func 25) #[sl3 p r s] #[]] 62)).alloc (.cells #[.int .i64 0, .int .i64 0, .int .i64 0, .slice none 0 0] 24)).alloc (.cells #[.int .i64 0] 32)).alloc (.cells #[.int .i64 (x1 - x0), .int .i64 (y1 - y0), .int .i64 C, .slice none 0 0] 24) = W6 at *
  clear hW6
  rw [hs6] at hKP
  have hz1 := hb1.size
  have hlt6 := hKP.lt
  have hbz1 := hbz.trans (hb1.mono (by omega))
  replace k0 := k0.nx hb1
  replace k2 := k2.nx hb1
  replace k3 := k3.nx hb1
  replace k4 := k4.nx hb1
  replace k5 := k5.nx hb1
  clear k1 hb1
  clear ww1 ww2
  simp only [Nat.add_assoc, Nat.reduceAdd]
  obtain ⟨hf1, hf2⟩ := check_parts h
  obtain ⟨hc, hw1, hw2, hh1, hh2, hp⟩ := fitsC_ok hf1
  have hC4 : 1 ≤ C ∧ C ≤ 4 := by omega
  refine' wpIn_rangeFunc_ownF rfl (by omega) (gf := 63) (lb := #[.pointer (some ⟨w.heap.size + 6, 0, none⟩)]) (by first | rfl | (rw [hs6]; rfl) | simp [hs6]) trivial (enters_of Try.func63 (by kernel_rfl) rfl)
    (places_stops Fence.wide _ trivial rfl (by omega) (w.heap.size + 6) x0 y0 x1 y1 wd ht hwd hht hr4 w1 hKP) (fun h k => KpB.t h k) (KpB.b hlt6) (Below.refl _ _) (fun _ => rfl)
    (PInv w [(w.heap.size, 57, canA W H C A n cp a b c d), (w.heap.size + 2, 62, #[.func (.func 25) #[sl3 p r s] #[]]), (w.heap.size + 3, 24, #[.int .i64 0, .int .i64 0, .int .i64 0, .slice none 0 0]), (w.heap.size + 4, 32, #[.int .i64 0])] (w.heap.size + 7) (w.heap.size + 5) (x1 - x0) (y1 - y0) C (fun q => hasB a b c d (q.1.1 + mv p s q.1.2) q.1.2 = true) (fun q => cutP P a b W C (q.1.1 + mv p s q.1.2) q.1.2))
    (PEx w (w.heap.size + 3) (w.heap.size + 4) (fun q => hasB a b c d (q.1.1 + mv p s q.1.2) q.1.2 = true))
    (pinv_own (by omega) (by omega)) (fun c => pex_own (by omega) (by omega) (by omega)) ?h0 _ ?assign ?body ?done ?stop
  case assign =>
    intro l x W K hK
    simp only [encP]
    gi_wp2
    exact hK
  case h0 =>
    refine ⟨fun x hx => ?_, ⟨.slice none 0 0, k5, by simpa using World.ownsRow_nil _ _ _ _⟩, by simp, hbz1, by omega, by omega, fun x hx => ?_⟩
    · simp only [List.mem_cons, List.not_mem_nil, or_false] at hx
      rcases hx with rfl | rfl | rfl | rfl
      · exact ⟨by show w.heap.size < _; omega, k0⟩
      · exact ⟨by show w.heap.size + 2 < _; omega, k2⟩
      · exact ⟨by show w.heap.size + 3 < _; omega, k3⟩
      · exact ⟨by show w.heap.size + 4 < _; omega, k4⟩
    · simp only [List.mem_cons, List.not_mem_nil, or_false] at hx
      rcases hx with rfl | rfl | rfl | rfl
      · show w.heap.size ≠ _; omega
      · show w.heap.size + 2 ≠ _; omega
      · show w.heap.size + 3 ≠ _; omega
      · show w.heap.size + 4 ≠ _; omega
  case body =>
    rintro l pre x W' hI hlen
    obtain ⟨v, hKo, hown⟩ := hI.img
    have q0 : Bk W' w.heap.size 57 (canA W H C A n cp a b c d) := (hI.fb (w.heap.size, 57, canA W H C A n cp a b c d) (by simp)).2
    have q2 : Bk W' (w.heap.size + 2) 62 #[.func (.func 25) #[sl3 p r s] #[]] := (hI.fb (w.heap.size + 2, 62, #[.func (.func 25) #[sl3 p r s] #[]]) (by simp)).2
    have q3 : Bk W' (w.heap.size + 3) 24 #[.int .i64 0, .int .i64 0, .int .i64 0, .slice none 0 0] := (hI.fb (w.heap.size + 3, 24, #[.int .i64 0, .int .i64 0, .int .i64 0, .slice none 0 0]) (by simp)).2
    have q4 : Bk W' (w.heap.size + 4) 32 #[.int .i64 0] := (hI.fb (w.heap.size + 4, 32, #[.int .i64 0]) (by simp)).2
    have hbW := hI.bel
    have hsW := hI.sz
    clear k0 k2 k3 k4 k5 hKP
    obtain ⟨⟨xx, xy⟩, hxx, hxy⟩ := x
    have hfc := q2.cell1
    dsimp only at hxx hxy
    have hzW : w.heap.size + 7 ≤ W'.heap.size := hsW
    cases hh : hasB a b c d (xx + mv p s xy) xy
    · gi_wp2_with (first
        | (refine ⟨trivial, ?_⟩; gi_at_call 25; refine (CallsIn.inRound l (callsIn_wide.2 (from_any p r s xx xy _ kp ks hxy hxx))).mono ?_; rintro e wf ⟨rfl, hbf⟩; obtain ⟨e0, e1, e2, e3, e4, e5, e6, e7⟩ := can_cells (q0.nx hbf))
        | (refine ⟨trivial, ?_⟩; gi_at_call 50; refine (CallsIn.inRound l (callsIn_wide.2 (has_any a b c d (xx + mv p s xy) xy _))).mono ?_; rintro e wh ⟨rfl, hbh⟩; rw [hh]; have hbe := hbf.trans (hbh.mono hbf.size); have hze := hbe.size; have q3h := q3.nx hbe; have q4h := q4.nx hbe; obtain ⟨t0, t1, t2, t3⟩ := q3h.cell4; have u0 := q4h.cell1; have f30 := q3h.frozen 0; have f31 := q3h.frozen 1; have f32 := q3h.frozen 2; have f33 := q3h.frozen 3; have f40 := q4h.frozen 0))
      refine ⟨(((((keeps_below hbe).trans (KeepsOthers.setCell _ _ _)).trans (KeepsOthers.setCell _ _ _)).trans (KeepsOthers.setCell _ _ _)).trans (KeepsOthers.setCell _ _ _)).trans (KeepsOthers.setCell _ _ _), rfl, ⟨_, List.mem_append.2 (.inr (List.mem_singleton.2 rfl)), by show ¬ _ = true; rw [hh]; simp⟩, (q3h.set4 _ _ _ _).far (by show w.heap.size + 3 ≠ w.heap.size + 4; omega) _, (q4h.far4 (by omega) _ _ _ _).set1 _, ?_⟩
      exact (below_set4 (hbW.trans (hbe.mono (by omega))) (by omega) _ _ _ _).setCell (p := ⟨w.heap.size + 4, 0, none⟩) (by show w.heap.size ≤ w.heap.size + 4; omega) _
    · obtain ⟨hne, hu1, hu2, hv1, hv2⟩ := hasB_iff.1 hh
      obtain ⟨ra, rb, rc, rd⟩ := hat
      have hm := (mv_bd kp ks hxy).2
      generalize hU : xx + mv p s xy = U at *
      obtain ⟨m1, m2, m6, m8, m9⟩ := cut_bd (C := C) (u := U) (v := xy) (a := a) (b := b) ⟨hw1, hw2⟩ ⟨hh1, hh2⟩ hC4.2 ⟨by omega, by omega⟩ ⟨by omega, by omega⟩
      have v1 : wrap64 (xy - b) = xy - b := IntWalk.wrap64_in _ ⟨by omega, by omega⟩
      have v2 : wrap64 ((xy - b) * W) = (xy - b) * W := IntWalk.wrap64_in _ ⟨by omega, by omega⟩
      have v3 : wrap64 ((xy - b) * W + U) = (xy - b) * W + U := IntWalk.wrap64_in _ ⟨by omega, by omega⟩
      have v4 : wrap64 ((xy - b) * W + U - a) = (xy - b) * W + (U - a) := by rw [show (xy - b) * W + U - a = (xy - b) * W + (U - a) by omega]; exact IntWalk.wrap64_in _ ⟨by omega, by omega⟩
      have hcut : cutP P a b W C U xy = (P.drop (((xy - b) * W + (U - a)) * C).toNat).take C := rfl
      obtain ⟨Q, hQ⟩ : ∃ Q : Nat, ((xy - b) * W + (U - a)) * (C : Int) = Q := ⟨_, (Int.toNat_of_nonneg m6).symm⟩
      have hQn : Q + C ≤ n := by rw [hQ] at m9; omega
      have hQs : Q ≤ 4295098368 := by rw [hQ] at m8; omega
      obtain ⟨z, hz⟩ : ∃ z : Int, z = (Q : Int) := ⟨_, rfl⟩
      obtain ⟨z2, hz2⟩ : ∃ z2 : Int, z2 = z + C := ⟨_, rfl⟩
      have v5 : wrap64 (((xy - b) * W + (U - a)) * C) = z := by
        rw [hQ, ← hz]
        exact IntWalk.wrap64_in _ ⟨by omega, by omega⟩
      rw [hQ, Int.toNat_natCast] at hcut
      have v7 : IntKind.i64.wrap (z + C) = z2 := by rw [← hz2]; exact IntWalk.i64_in _ (by omega)
      have g1 : (0:Int) ≤ z := by omega
      have g2 : z ≤ z2 := by omega
      have g3 : z2 ≤ (cp:Int) := by omega
      have zt1 : z.toNat = Q := by omega
      have zt2 : z2.toNat = Q + C := by omega
      have hne1 : ¬ cp = Q := by omega
      have hsub : Q + C - Q = C := Nat.add_sub_cancel_left Q C
      have hrW : Rd W' B A (P.map (Value.int .u8)) := hr.below' hbW hB
      obtain ⟨bb, oo, rfl, hbb, hgc0⟩ := hr.get 0 (by rw [List.length_map, hP]; omega)
      clear hgc0
      have HQS := Lib.hid hQs
      have HQN := Lib.hid hQn
      have HCUT := Lib.hid hcut
      have HU := Lib.hid hU
      have HF2 := Lib.hid hf2
      have HP := Lib.hid hP
      have hfrom : Calls Try.prog 25 #[sl3 p r s, .int .i64 xx, .int .i64 xy] W' fun e w' => e = .returned (pl2 U xy) ∧ Below W'.heap.size W' w' := by rw [← HU.out]; exact from_any p r s xx xy _ kp ks hxy hxx
      clear hcut hU hQ m1 m2 m6 m8 m9 hf2 hP hm hp hc hf1 hatW hatH
      clear hz hz2
      gi_wp2_with (first
        | (refine ⟨trivial, ?_⟩; gi_at_call 25; refine (CallsIn.inRound l (callsIn_wide.2 hfrom)).mono ?_; rintro e wf ⟨rfl, hbf⟩; obtain ⟨e0, e1, e2, e3, e4, e5, e6, e7⟩ := can_cells (q0.nx hbf))
        | (refine ⟨trivial, ?_⟩; gi_at_call 50; refine (CallsIn.inRound l (callsIn_wide.2 (has_any a b c d U xy _))).mono ?_; rintro e wh ⟨rfl, hbh⟩; rw [hh]; have hbe := hbf.trans (hbh.mono hbf.size); have hze := hbe.size; have hKoh := hKo.nx hbe; have hownh := own_below hown hbe (Nat.le_refl _); clear e0 e1 e2 e3 e4 e5 e6 e7; obtain ⟨e0, e1, e2, e3, e4, e5, e6, e7⟩ := can_cells (q0.nx hbe); obtain ⟨t0, t1, t2, t3⟩ := hKoh.cell4))
      simp only [v5]
      clear hQs hQn v1 v2 v3 v4 v5
      have hmx : Try.prog.follows .mixedOrders = true := by kernel_rfl
      have hslice : ∀ w' : World, (Instr.slice 22 (.slice (some ⟨bb, oo, none⟩) n cp) (some (.int .i64 z)) (some (.int .i64 z2)) none).run Try.prog w' = .ok (.slice (some ⟨bb, oo + Q, none⟩) C (cp - Q)) w' := by
        intro w'
        rw [run_slice_lh w' 22 _ _ _ Try.underlying22 _ _ _ _ g1 g2 g3]
        simp [go_sem, zt1, zt2, hne1, hsub]
      have hrh : Rd wh B (some ⟨bb, oo, none⟩) (P.map (Value.int .u8)) := hrW.below' hbe (by omega)
      have hnews : ∀ j u, (((P.drop Q).take C).map (Value.int .u8))[j]? = some u → wh.drew.cell? ((⟨bb, oo + Q, none⟩ : Addr).add j) = some u := fun j u hj => by
        have h1 : (P.map (Value.int .u8))[Q + j]? = some u := by
          rw [List.getElem?_map, List.getElem?_take] at hj
          split at hj
          · rw [List.getElem?_map, ← hj, List.getElem?_drop]
          · cases hj
        obtain ⟨h2, h3⟩ := List.getElem?_eq_some_iff.1 h1
        obtain ⟨b2, o2, e2, _, h4⟩ := hrh.get (Q + j) h2
        cases e2
        rw [addo, Nat.add_assoc]
        exact h4.trans (by rw [h3])
      have hpc : pre.length * C + C ≤ 17179869184 := by
        have h1 : (pre.length + 1) * C ≤ (ht * wd) * C := Nat.mul_le_mul_right _ (by omega)
        have := HSM.out
        rw [Nat.add_mul] at h1
        omega
      have HPC := Lib.hid hpc
      clear hpc
      have hrS : Rd wh.drew B (some ⟨bb, oo + Q, none⟩) (((P.drop Q).take C).map (Value.int .u8)) := fun j hj => by
        have := hnews j _ (List.getElem?_eq_getElem hj)
        rw [addo] at this
        exact ⟨bb, oo + Q, rfl, hbb, this⟩
      clear hnews hrh hrW
      have hlenC : (((P.drop Q).take C).map (Value.int .u8)).length = C * 1 := by have := HP.out; have := HQN.out; simp; omega
      have HLC := Lib.hid hlenC
      clear hlenC
      obtain ⟨i80, i81, i82, i83⟩ := hKoh.cell4
      have f83 := hKoh.frozen 3
      refine wpIn_region_tail 12 hmx (by kernel_rfl) (by kernel_rfl) ?_
      simp only [List.take_succ_cons, List.take_zero, List.drop_succ_cons, List.drop_zero]
      repeat still_step
      refine wpStill_nil ?_
      change wpList _ _ _ _ _ wh.drew
      have hHC := HPC.out
      go_wp2_with (at_builtin; refine appR rfl _ _ _ rfl Try.underlying22 u8_info rfl (by omega) rfl rfl hownh.drew (B := w.heap.size) ((hbW.trans (hbe.mono (by omega))).drew) (by omega) (by show _ ≤ wh.heap.size; omega) hrS HLC.out (intsL _) (by omega) (by omega) ?_; intro v' w9 hown9 hb9 hz9 hg9 _; obtain ⟨A9, c9, rfl, _, _, _, _⟩ := own_form hown9; have hKo9 := hKoh.drew.grown hg9 (fun e => by have := own_ge hownh _ e.symm; omega); obtain ⟨i90, i91, i92, i93⟩ := hKo9.cell4; have f93 := hKo9.frozen 3; clear i80 i81 i82 i83 f83)
      change Exit.inBlock 1 _ Exit.normal _ _
      gi_wp2
      have hpx : (fun q : PT => cutP P a b W C (q.1.1 + mv p s q.1.2) q.1.2) ⟨(xx, xy), hxx, hxy⟩ = (P.drop Q).take C := by
        show cutP P a b W C (xx + mv p s xy) xy = _
        rw [HU.out, HCUT.out]
      rw [← hpx] at hown9
      exact pinv_step hI hKo hown (by show hasB a b c d (xx + mv p s xy) xy = true; rw [HU.out]; exact hh) hbe.drew hg9 hown9 (by omega) (by omega) (by omega)
  case done =>
    rintro D ys W9 hD rfl hI hK
    obtain ⟨v, hKo, hown⟩ := hI.img
    have q3 : Bk W9 (w.heap.size + 3) 24 #[.int .i64 0, .int .i64 0, .int .i64 0, .slice none 0 0] := (hI.fb (w.heap.size + 3, 24, #[.int .i64 0, .int .i64 0, .int .i64 0, .slice none 0 0]) (by simp)).2
    have q4 : Bk W9 (w.heap.size + 4) 32 #[.int .i64 0] := (hI.fb (w.heap.size + 4, 32, #[.int .i64 0]) (by simp)).2
    have hoks := hI.oks
    have hbW := hI.bel
    have hsz := hI.sz
    rw [plsP_len] at hown
    obtain ⟨A9, c9, rfl, _, _, _, _⟩ := own_form hown
    obtain ⟨t0, t1, t2, t3⟩ := hKo.cell4
    obtain ⟨s0, s1, s2, s3⟩ := q3.cell4
    have f30 := q3.frozen 0
    have f31 := q3.frozen 1
    have f32 := q3.frozen 2
    have f33 := q3.frozen 3
    have u0 := q4.cell1
    have f40 := q4.frozen 0
    gi_wp2
    have hKO := ((((KeepsOthers.setCell W9 ⟨w.heap.size + 3, 0, none⟩ (.int .i64 (x1 - x0))).trans (KeepsOthers.setCell _ ⟨w.heap.size + 3, 1, none⟩ (.int .i64 (y1 - y0)))).trans (KeepsOthers.setCell _ ⟨w.heap.size + 3, 2, none⟩ (.int .i64 C))).trans (KeepsOthers.setCell _ ⟨w.heap.size + 3, 3, none⟩ (.slice A9 (ht * wd * C) c9))).trans (KeepsOthers.setCell _ ⟨w.heap.size + 4, 0, none⟩ (.int .i64 0))
    have hK' := hKO.same D _ hK rfl
    have b3 := ((q3.set4 (.int .i64 (x1 - x0)) (.int .i64 (y1 - y0)) (.int .i64 C) (.slice A9 (ht * wd * C) c9)).far (p := ⟨w.heap.size + 4, 0, none⟩) (by show w.heap.size + 3 ≠ w.heap.size + 4; omega) (.int .i64 0)).grown (grownBy_putObj' _ D (.deferred none)) (fun e => by injection e with e; omega)
    have b4 := ((q4.far4 (b := w.heap.size + 3) (by omega) (.int .i64 (x1 - x0)) (.int .i64 (y1 - y0)) (.int .i64 C) (.slice A9 (ht * wd * C) c9)).set1 (.int .i64 0)).grown (grownBy_putObj' _ D (.deferred none)) (fun e => by injection e with e; omega)
    have hge := own_ge hown
    have hne3 : ∀ (i : Nat) (g : Nat), (Value.slice A9 (ht * wd * C) c9).ownBlock = some g → g ≠ (⟨w.heap.size + 3, i, none⟩ : Addr).block := fun i g e => by have := hge g e; show g ≠ w.heap.size + 3; omega
    have o9 := own_kept' (own_far (own_far (own_far (own_far (own_far hown ⟨w.heap.size + 3, 0, none⟩ (.int .i64 (x1 - x0)) (hne3 0)) ⟨w.heap.size + 3, 1, none⟩ (.int .i64 (y1 - y0)) (hne3 1)) ⟨w.heap.size + 3, 2, none⟩ (.int .i64 C) (hne3 2)) ⟨w.heap.size + 3, 3, none⟩ (.slice A9 (ht * wd * C) c9) (hne3 3)) ⟨w.heap.size + 4, 0, none⟩ (.int .i64 0) (fun g e => by have := hge g e; show g ≠ w.heap.size + 4; omega)) (grownBy_putObj' _ D (.deferred none)) (fun r e => by cases e; exact ⟨_, hK', rfl⟩)
    have hbf := ((below_set4 hbW (g := w.heap.size + 3) (by omega) (.int .i64 (x1 - x0)) (.int .i64 (y1 - y0)) (.int .i64 C) (.slice A9 (ht * wd * C) c9)).setCell (p := ⟨w.heap.size + 4, 0, none⟩) (by show w.heap.size ≤ w.heap.size + 4; omega) (.int .i64 0)).grown (grownBy_putObj' _ D (.deferred none)) (Nat.le_trans hbW.size hKO.size) (fun k e => by injection e with e; omega)
    refine ⟨by simp, .inl ⟨_, _, rfl, run_takeDeferred hK', ?_⟩⟩
    refine ⟨_, res_img_err rfl b3 b4 rfl rfl, .inl ⟨.slice A9 (ht * wd * C) c9, ?_, hoks, ?_, hbf⟩⟩
    · rw [show x1 - x0 = (wd : Int) by omega, show y1 - y0 = (ht : Int) by omega]
    · exact own_base o9 (by omega)
  case stop =>
    rintro D c' pre W9 hD hpre hX hK
    obtain ⟨rfl, ⟨q, hq, hqb⟩, q3, q4, hbW⟩ := hX
    gi_wp2
    have b3 := q3.grown (grownBy_putObj' _ D (.deferred none)) (fun e => by injection e with e; omega)
    have b4 := q4.grown (grownBy_putObj' _ D (.deferred none)) (fun e => by injection e with e; omega)
    have hbf := hbW.grown (grownBy_putObj' _ D (.deferred none)) hbW.size (fun k e => by injection e with e; omega)
    refine ⟨by simp, .inl ⟨_, _, rfl, run_takeDeferred hK, ?_⟩⟩
    exact ⟨_, res_img_err rfl b3 b4 rfl rfl, .inr ⟨rfl, ⟨q, hpre.subset hq, by simpa using hqb⟩, hbf⟩⟩
end Go.Proofs.Ytpcjoalbhicccaa
