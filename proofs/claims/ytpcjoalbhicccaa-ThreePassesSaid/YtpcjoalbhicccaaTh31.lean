/- A pass along, of the reference. -/
import Derived.Test.YtpcjoalbhicccaaTh29a
set_option linter.unusedVariables false
namespace Go.Proofs.Ytpcjoalbhicccaa
open Go.RowKit
set_option maxRecDepth 100000 in
set_option maxHeartbeats 4000000 in
theorem rpass_t (W H : Int) (C : Nat) (A : Option Addr) (n cp : Nat) (P : List Int) (a b c d p r s x0 y0 x1 y1 : Int) (wd ht : Nat) (w : World) {B : Nat} (h : canC W H C n a b c d p r s x0 y0 x1 y1 = 0) (hP : P.length = n) (hr : Rd w B A (P.map (Value.int .u8))) (hB : B ≤ w.heap.size) (hcp : n ≤ cp) (hwd : x0 + wd = x1) (hht : y0 + ht = y1) :
    Calls Try.prog 11 #[.bool true, .agg #[.int .i64 W, .int .i64 H, .int .i64 C, .slice A n cp], rect4 a b c d, .int .i64 p, .int .i64 r, .int .i64 s, rect4 x0 y0 x1 y1] w fun e w' =>
      (∃ v, e = .returned (okV wd ht C v) ∧ (∀ q ∈ plsP x0 y0 wd ht, hasB a b c d q.1.1 (q.1.2 + mv p r q.1.1) = true) ∧ w'.ownsRow w.heap.size 5 1 v (ht * wd * C) ((outP P a b W C (fun q => (q.1.1, q.1.2 + mv p r q.1.1)) (plsP x0 y0 wd ht)).map (Value.int .u8)) ∧ Below w.heap.size w w') ∨
      (e = .returned (badV 11) ∧ (∃ q ∈ plsP x0 y0 wd ht, hasB a b c d q.1.1 (q.1.2 + mv p r q.1.1) = false) ∧ Below w.heap.size w w') := by
  obtain ⟨g1, hat, hatW, hatH, kp, kr, ks, hne, hlg⟩ := canC_ok h
  have hrt : decide (rightR a b c d) = true := decide_eq_true hat
  obtain ⟨ra, rb, rc, rd⟩ := hat
  have v1 : wrap64 (c - a) = W := by rw [wsub rc ra, hatW]
  have v2 : wrap64 (d - b) = H := by rw [wsub rd rb, hatH]
  have i1 : inB p 262144 = true := inB_iff.2 kp
  have i2 : inB r 32768 = true := inB_iff.2 kr
  have i3 : inB s 32768 = true := inB_iff.2 ks
  have haz : areaR x0 y0 x1 y1 ≠ 0 := fun e => hne ((area_zero _ _ _ _).1 e)
  have haz' : decide (areaR x0 y0 x1 y1 = 0) = false := decide_eq_false haz
  have haz2 : (areaR x0 y0 x1 y1 == 0) = false := by simpa using haz
  obtain ⟨hf1, hf2⟩ := check_parts g1
  obtain ⟨hc, hw1, hw2, hh1, hh2, hp⟩ := fitsC_ok hf1
  have hC4 : 1 ≤ C ∧ C ≤ 4 := by omega
  obtain ⟨_, _, _, _, _, hsm⟩ := small_of hne hlg hwd hht hC4.2
  have HSM := Lib.hid hsm
  have HNE := Lib.hid hne
  obtain ⟨rx0, ry0, rx1, ry1⟩ : rightR x0 y0 x1 y1 := by
    by_cases h : rightR x0 y0 x1 y1
    · exact h
    · exact absurd (.inl h) hne
  have u1 : wrap64 (x1 - x0) = (wd : Int) := by rw [wsub rx1 rx0]; omega
  have u2 : wrap64 (y1 - y0) = (ht : Int) := by rw [wsub ry1 ry0]; omega
  clear hsm h haz haz'
  go_enter Try.func11, Try.ntmps11
  obtain ⟨k8, k9, k13, k14, hbz, hs4⟩ := allocs4 w #[.int .i64 W, .int .i64 H, .int .i64 C, .slice A n cp] (rectA a b c d) (rectA x0 y0 x1 y1) #[.int .i64 0, .int .i64 0, .int .i64 0, .slice none 0 0] 24 26 26 24
  go_wp2_with fail
  refine (rcheck_ok W H C A n cp _ g1).mono ?_
  rintro e w1 ⟨rfl, hb1⟩
  replace k8 := k8.nx hb1
  replace k9 := k9.nx hb1
  replace k13 := k13.nx hb1
  replace k14 := k14.nx hb1
  have hbz1 := hbz.trans (hb1.mono (by simp <;> omega))
  have hz1 := hb1.size
  rw [hs4] at hz1
  clear hb1 hbz
  obtain ⟨e0, e1, e2, e3⟩ := k8.cell4
  obtain ⟨a0, a1, a2, a3⟩ := k9.cell4
  go_wp2_with fail
  refine (rright_any a b c d _).mono ?_
  rintro e w2 ⟨rfl, hb2⟩
  rw [hrt]
  replace k8 := k8.nx hb2
  replace k9 := k9.nx hb2
  replace k13 := k13.nx hb2
  replace k14 := k14.nx hb2
  have hbz2 := hbz1.trans (hb2.mono hbz1.size)
  have hz2 := hb2.size
  clear hb2 hbz1 e0 e1 e2 e3 a0 a1 a2 a3
  obtain ⟨e0, e1, e2, e3⟩ := k8.cell4
  obtain ⟨a0, a1, a2, a3⟩ := k9.cell4
  obtain ⟨t0, t1, t2, t3⟩ := k13.cell4
  go_wp2_with (go_at_call 29; (with_reducible refine (in18_any _ _ _ (by decide) (by decide)).mono ?_); rintro e w' ⟨rfl, rfl⟩)
  refine (rarea_any x0 y0 x1 y1 _).mono ?_
  rintro e w3 ⟨rfl, hb3⟩
  replace k8 := k8.nx hb3
  replace k9 := k9.nx hb3
  replace k13 := k13.nx hb3
  replace k14 := k14.nx hb3
  have hbz3 := hbz2.trans (hb3.mono hbz2.size)
  have hz3 := hb3.size
  clear hb3 hbz2 e0 e1 e2 e3 a0 a1 a2 a3 t0 t1 t2 t3
  obtain ⟨t0, t1, t2, t3⟩ := k13.cell4
  go_wp2_with fail
  refine (rlarge_any x0 y0 x1 y1 _).mono ?_
  rintro e w4 ⟨rfl, hb4⟩
  rw [hlg]
  replace k8 := k8.nx hb4
  replace k9 := k9.nx hb4
  replace k13 := k13.nx hb4
  replace k14 := k14.nx hb4
  have hbz4 := hbz3.trans (hb4.mono hbz3.size)
  have hz4 := hb4.size
  clear hb4 hbz3 t0 t1 t2 t3 hlg hne
  obtain ⟨t0, t1, t2, t3⟩ := k13.cell4
  go_wp2_with fail
  have hinv : ∀ (xs : List PT) (x : PT), outP P a b W C (fun q => (q.1.1, q.1.2 + mv p r q.1.1)) (xs ++ [x]) = outP P a b W C (fun q => (q.1.1, q.1.2 + mv p r q.1.1)) xs ++ cutP P a b W C x.1.1 (x.1.2 + mv p r x.1.1) := fun xs x => by
    unfold outP
    rw [List.flatMap_append]
    simp
  have HINV := Lib.hid hinv
  clear hinv
  have hsz4 : w.heap.size + 4 ≤ w4.heap.size := by omega
  go_loopw [17, 18] (fun pv yv wr => ∃ j : Nat, j ≤ ht ∧ yv = .int .i64 (y0 + j) ∧ wr.ownsRow (w.heap.size + 4) 5 1 pv (j * wd * C) ((outP P a b W C (fun q => (q.1.1, q.1.2 + mv p r q.1.1)) (plsP x0 y0 wd j)).map (Value.int .u8)) ∧ (∀ q ∈ plsP x0 y0 wd j, hasB a b c d q.1.1 (q.1.2 + mv p r q.1.1) = true) ∧ Bk wr w.heap.size 24 #[.int .i64 W, .int .i64 H, .int .i64 C, .slice A n cp] ∧ Bk wr (w.heap.size + 1) 26 (rectA a b c d) ∧ Bk wr (w.heap.size + 2) 26 (rectA x0 y0 x1 y1) ∧ Bk wr (w.heap.size + 3) 24 #[.int .i64 0, .int .i64 0, .int .i64 0, .slice none 0 0] ∧ Below w.heap.size w wr ∧ w.heap.size + 4 ≤ wr.heap.size) (fun _ yv _ => (y1 - intOf yv).toNat)
  case atStart => exact ⟨0, by omega, by simp, by simpa [plsP, outP] using World.ownsRow_nil _ _ _ _, by simp [plsP], k8, k9, k13, k14, hbz4, hsz4⟩
  case round =>
    clear k8 k9 k13 k14 hbz4 hsz4 t0 t1 t2 t3
    obtain ⟨j, hj, rfl, hown, hall, k8, k9, k13, k14, hbr, hsr⟩ := hrel
    obtain ⟨t0, t1, t2, t3⟩ := k13.cell4
    by_cases hlj : j < ht
    · have hlj' : y0 + j < y1 := by omega
      have wj : wrap64 (y0 + j + 1) = y0 + j + 1 := IntWalk.wrap64_in _ ⟨by omega, by omega⟩
      go_wp2_with fail
      go_loopw [17, 19] (fun pv xv wr => ∃ i : Nat, i ≤ wd ∧ xv = .int .i64 (x0 + i) ∧ wr.ownsRow (w.heap.size + 4) 5 1 pv ((j * wd + i) * C) ((outP P a b W C (fun q => (q.1.1, q.1.2 + mv p r q.1.1)) (plsP x0 y0 wd j ++ rowP x0 (y0 + j) i)).map (Value.int .u8)) ∧ (∀ q ∈ plsP x0 y0 wd j ++ rowP x0 (y0 + j) i, hasB a b c d q.1.1 (q.1.2 + mv p r q.1.1) = true) ∧ Bk wr w.heap.size 24 #[.int .i64 W, .int .i64 H, .int .i64 C, .slice A n cp] ∧ Bk wr (w.heap.size + 1) 26 (rectA a b c d) ∧ Bk wr (w.heap.size + 2) 26 (rectA x0 y0 x1 y1) ∧ Bk wr (w.heap.size + 3) 24 #[.int .i64 0, .int .i64 0, .int .i64 0, .slice none 0 0] ∧ Below w.heap.size w wr ∧ w.heap.size + 4 ≤ wr.heap.size) (fun _ xv _ => (x1 - intOf xv).toNat)
      case atStart => exact ⟨0, by omega, by simp, by simpa [rowP] using hown, by simpa [rowP] using hall, k8, k9, k13, k14, hbr, hsr⟩
      case round =>
        clear k8 k9 k13 k14 hbr hsr t0 t1 t2 t3 hown hall
        obtain ⟨i, hi, rfl, hown, hall, k8, k9, k13, k14, hbr, hsr⟩ := hrel
        obtain ⟨t0, t1, t2, t3⟩ := k13.cell4
        by_cases hli : i < wd
        · have hli' : x0 + i < x1 := by omega
          have wi : wrap64 (x0 + i + 1) = x0 + i + 1 := IntWalk.wrap64_in _ ⟨by omega, by omega⟩
          have hxb : bdI 4294967296 (x0 + i) := by omega
          have hyb : bdI 4294967296 (y0 + j) := by omega
          have hm := (mv_bd kp kr hxb).2
          have hfr := fun w' : World => rfrom_t p r s (x0 + i) (y0 + j) w' kp kr hyb hxb
          have hmem : mkP (x0 + i) (y0 + j) ∈ plsP x0 y0 wd ht := (at_pre x0 y0 wd (i := i + 1) (j := j) (h := ht) (by omega) hlj).subset (List.mem_append.2 (.inr (by rw [rowP]; simp)))
          have hmk := mkP_eq (x := x0 + i) (y := y0 + j) ⟨hxb, hyb⟩
          have hrow : plsP x0 y0 wd j ++ rowP x0 (y0 + j) (i + 1) = (plsP x0 y0 wd j ++ rowP x0 (y0 + j) i) ++ [mkP (x0 + i) (y0 + j)] := by rw [rowP, List.append_assoc]
          have HROW := Lib.hid hrow
          clear hrow
          have hpc : (j * wd + i) * C + C ≤ 17179869184 := by
            have h1 : (j * wd + i + 1) * C ≤ (ht * wd) * C := Nat.mul_le_mul_right _ (by
              have : (j + 1) * wd ≤ ht * wd := Nat.mul_le_mul_right _ (by omega)
              rw [Nat.add_mul] at this
              omega)
            have := HSM.out
            rw [Nat.add_mul] at h1
            omega
          have HPC := Lib.hid hpc
          clear hpc
          obtain ⟨e0, e1, e2, e3⟩ := k8.cell4
          obtain ⟨a0, a1, a2, a3⟩ := k9.cell4
          obtain ⟨z0, z1, z2, z3⟩ := k14.cell4
          have hx1 : (mkP (x0 + i) (y0 + j)).1.1 = x0 + i := by rw [hmk]
          have hx2 : (mkP (x0 + i) (y0 + j)).1.2 = y0 + j := by rw [hmk]
          have HX1 := Lib.hid hx1
          have HX2 := Lib.hid hx2
          clear hx1 hx2 hmk
          generalize hU : (y0 + j) + mv p r (x0 + i) = V at *
          have HU := Lib.hid hU
          clear hU
          cases hh : hasB a b c d (x0 + i) V
          · go_wp2_with (first
              | (go_at_call 30; (with_reducible refine (hfr _).mono ?_); rintro e w' ⟨rfl, rfl⟩)
              | (go_at_call 31; (with_reducible refine (rhas_any a b c d (x0 + i) V _).mono ?_); rintro e w5 ⟨rfl, hb5⟩; rw [hh]; have k145 := k14.nx hb5; have hbz5 := hbr.trans (hb5.mono hbr.size))
              | (refine stImg rfl _ _ rfl k145 rfl rfl rfl ?_; intro w6 k146 hg6 _))
            refine bodyPost_ret (res_img_tmp rfl k146 rfl) rfl ?_
            exact .inr ⟨rfl, ⟨_, hmem, by rw [HX1.out, HX2.out, HU.out]; exact hh⟩, below_of_gb hbz5 hg6 (by omega) hbz5.size⟩
          · obtain ⟨hne2, hu1, hu2, hv1, hv2⟩ := hasB_iff.1 hh
            obtain ⟨m1, m2, m6, m8, m9⟩ := cut_bd (C := C) (u := x0 + i) (v := V) (a := a) (b := b) ⟨hw1, hw2⟩ ⟨hh1, hh2⟩ hC4.2 ⟨by omega, by omega⟩ ⟨by omega, by omega⟩
            have w3a : wrap64 (x0 + i - a) = x0 + i - a := IntWalk.wrap64_in _ ⟨by omega, by omega⟩
            have w3b : wrap64 (V - b) = V - b := IntWalk.wrap64_in _ ⟨by omega, by omega⟩
            have hcut : cutP P a b W C (x0 + i) V = (P.drop (((V - b) * W + (x0 + i - a)) * C).toNat).take C := rfl
            obtain ⟨Q, hQ⟩ : ∃ Q : Nat, ((V - b) * W + (x0 + i - a)) * (C : Int) = Q := ⟨_, (Int.toNat_of_nonneg m6).symm⟩
            have hQn : Q + C ≤ n := by rw [hQ] at m9; omega
            have hQs : Q ≤ 4295098368 := by rw [hQ] at m8; omega
            obtain ⟨z, hz⟩ : ∃ z : Int, z = (Q : Int) := ⟨_, rfl⟩
            obtain ⟨zz, hzz⟩ : ∃ zz : Int, zz = z + C := ⟨_, rfl⟩
            rw [hQ, Int.toNat_natCast] at hcut
            have hPl := fun w' : World => (rplace_any W H C A n cp (x0 + i - a) (V - b) 0 w' g1 ⟨by omega, by omega⟩ ⟨by omega, by omega⟩ (by omega)).mono
              (R' := fun e w'' => e = .returned (.int .i64 z) ∧ Below w'.heap.size w' w'') (fun e w'' ⟨h1, h2⟩ => ⟨by rw [h1, hQ, hz]; simp, h2⟩)
            rw [show ((0 : Nat) : Int) = 0 from rfl] at hPl
            have v7 : wrap64 (z + C) = zz := by rw [← hzz]; exact IntWalk.wrap64_in _ ⟨by omega, by omega⟩
            have q1 : (0:Int) ≤ z := by omega
            have q2 : z ≤ zz := by omega
            have q3 : zz ≤ (cp:Int) := by omega
            have zt1 : z.toNat = Q := by omega
            have zt2 : zz.toNat = Q + C := by omega
            have hne1 : ¬ cp = Q := by omega
            have hsub : Q + C - Q = C := Nat.add_sub_cancel_left Q C
            obtain ⟨bb, oo, rfl, hbb, hgc0⟩ := hr.get 0 (by rw [List.length_map, hP]; omega)
            clear hgc0
            have hslice : ∀ w' : World, (Instr.slice 22 (.slice (some ⟨bb, oo, none⟩) n cp) (some (.int .i64 z)) (some (.int .i64 zz)) none).run Try.prog w' = .ok (.slice (some ⟨bb, oo + Q, none⟩) C (cp - Q)) w' := by
              intro w'
              rw [run_slice_lh w' 22 _ _ _ Try.underlying22 _ _ _ _ q1 q2 q3]
              simp [go_sem, zt1, zt2, hne1, hsub]
            have hlenC : (((P.drop Q).take C).map (Value.int .u8)).length = C * 1 := by simp; omega
            have HLC := Lib.hid hlenC
            have HCUT := Lib.hid hcut
            have hnews : ∀ w' : World, Rd w' B (some ⟨bb, oo, none⟩) (P.map (Value.int .u8)) → Rd w' B (some ⟨bb, oo + Q, none⟩) (((P.drop Q).take C).map (Value.int .u8)) := fun w' hrw k hk => by
              have h1 : (P.map (Value.int .u8))[Q + k]? = some (((P.drop Q).take C).map (Value.int .u8))[k] := by
                have hk2 : (((P.drop Q).take C).map (Value.int .u8))[k]? = some (((P.drop Q).take C).map (Value.int .u8))[k] := List.getElem?_eq_getElem hk
                rw [List.getElem?_map, List.getElem?_take] at hk2
                split at hk2
                · rw [List.getElem?_map, ← hk2, List.getElem?_drop]
                · cases hk2
              obtain ⟨h2, h3⟩ := List.getElem?_eq_some_iff.1 h1
              obtain ⟨b2, o2, e2, _, h4⟩ := hrw.get (Q + k) h2
              cases e2
              exact ⟨bb, oo + Q, rfl, hbb, by rw [Nat.add_assoc, h4, h3]⟩
            have hrw := hnews _ (hr.below' hbr hB)
            clear hlenC hcut hz hzz hQ hQs m1 m2 m6 m8 m9 hnews
            go_wp2_with (first
              | (go_at_call 30; (with_reducible refine (hfr _).mono ?_); rintro e w' ⟨rfl, rfl⟩)
              | (go_at_call 31; (with_reducible refine (rhas_any a b c d (x0 + i) V _).mono ?_); rintro e w5 ⟨rfl, hb5⟩; rw [hh]; have hbz5 := hbr.trans (hb5.mono hbr.size); have K8 := k8.nx hb5; have K9 := k9.nx hb5; obtain ⟨f0, f1, f2, f3⟩ := K8.cell4; obtain ⟨y0', y1', y2', y3'⟩ := K9.cell4)
              | (go_at_call 32; (with_reducible refine (hPl _).mono ?_); rintro e w6 ⟨rfl, hb6⟩; have hb56 := hb5.trans (hb6.mono hb5.size); have hbz6 := hbr.trans (hb56.mono hbr.size); clear f0 f1 f2 f3 y0' y1' y2' y3'; obtain ⟨f0, f1, f2, f3⟩ := (k8.nx hb56).cell4; have hown6 := own_below hown hb56 (Nat.le_refl _); have hrw6 := hrw.below' hb56 (Nat.le_trans hB hbr.size); have hz6 := hbz6.size; have hs6 := hb56.size)
              | (at_builtin; refine appR rfl _ _ _ rfl Try.underlying22 u8_info rfl (by omega) rfl rfl hown6 hbz6 (by omega) (by omega) hrw6 HLC.out (intsL _) (by have := HPC.out; omega) (by have := HPC.out; omega) ?_; intro v' w9 hown9 hb9 hz9 hg9 _; have hge := own_ge hown6; clear hown6))
            have k8' := (k8.nx hb56).grown hg9 (fun e => by have := hge _ e.symm; omega)
            have k9' := (k9.nx hb56).grown hg9 (fun e => by have := hge _ e.symm; omega)
            have k13' := (k13.nx hb56).grown hg9 (fun e => by have := hge _ e.symm; omega)
            have k14' := (k14.nx hb56).grown hg9 (fun e => by have := hge _ e.symm; omega)
            refine ⟨⟨i + 1, by omega, val_int (by omega), ?_, ?_, k8', k9', k13', k14', hb9, by omega⟩, by simp [intOf]; omega⟩
            · rw [HROW.out, HINV.out, List.map_append, HX1.out, HX2.out, HU.out, HCUT.out, show (j * wd + (i + 1)) * C = (j * wd + i) * C + C by rw [← Nat.add_assoc, Nat.add_mul]; omega]
              exact hown9
            · intro q hq
              rw [HROW.out] at hq
              rcases List.mem_append.1 hq with hq | hq
              · exact hall q hq
              · rw [List.mem_singleton] at hq
                rw [hq, HX1.out, HX2.out, HU.out]
                exact hh
        · have hli' : ¬ x0 + i < x1 := by omega
          obtain rfl : i = wd := by omega
          go_wp2_with fail
          refine ⟨⟨j + 1, by omega, val_int (by omega), ?_, ?_, k8, k9, k13, k14, hbr, hsr⟩, by simp [intOf]; omega⟩
          · rw [show (j + 1) * i * C = (j * i + i) * C by rw [Nat.add_mul, Nat.one_mul]]
            exact hown
          · exact hall
    · obtain rfl : j = ht := by omega
      have hlj' : ¬ y0 + j < y1 := by omega
      obtain ⟨e0, e1, e2, e3⟩ := k8.cell4
      obtain ⟨A9, c9, rfl, _, _, _, _⟩ := own_form hown
      go_wp2_with (first
        | (go_at_call 33; (with_reducible refine (made_any _ _ _ _ _ _ _).mono ?_); rintro e w5 ⟨rfl, hb5⟩; have k145 := k14.nx hb5; have hbz5 := hbr.trans (hb5.mono hbr.size); have hown5 := own_below hown hb5 (Nat.le_refl _))
        | (refine stImg rfl _ _ rfl k145 rfl rfl rfl ?_; intro w6 k146 hg6 _))
      refine bodyPost_ret (res_img_tmp rfl k146 rfl) rfl ?_
      have hx10 : x1 - x0 = (wd : Int) := by omega
      have hy10 : y1 - y0 = (j : Int) := by omega
      refine .inl ⟨_, ?_, hall, own_base (own_kept2 hown5 hg6 (by omega)) (by omega), below_of_gb hbz5 hg6 (by omega) hbz5.size⟩
      rw [hx10, hy10]
      rfl
end Go.Proofs.Ytpcjoalbhicccaa
