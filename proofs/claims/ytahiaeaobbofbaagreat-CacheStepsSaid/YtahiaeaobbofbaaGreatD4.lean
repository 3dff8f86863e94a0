/- Several texts in one: The reference: what two rectangles share; a part of an image cut out. The reference: a part of an image cut out. -/
import Derived.Test.YtahiaeaobbofbaaGreatC1
import Derived.Test.YtahiaeaobbofbaaGreatSS8
import Derived.Lib.QuietBelow
import Derived.Deep.RegionWith
import Derived.Deep.QuietTactic
section
set_option linter.unusedVariables false
namespace Go.Proofs.YtahiaeaobbofbaaGreat
open Go.RowKit
attribute [local go_sem high] run_maxM run_minM
theorem rb_neq (a b c d e f g h : Int) (w : World) : (binOp .neq 59 (rc_rect4 a b c d) (rc_rect4 e f g h)).run Tryz.prog w = .ok (.bool (!decide ((a, b, c, d) = (e, f, g, h)))) w := by
  rw [eq4_bool]
  simp [go_sem, Tryz.underlying59]
  by_cases h1 : a = e <;> by_cases h2 : b = f <;> by_cases h3 : c = g <;> by_cases h4 : d = h <;> simp [h1, h2, h3, h4]
theorem Lie.rbput {w0 w1 w' : World} {L : List (Nat × TypeId × Array Value)} {o : Obj} {t : TypeId} {cs : Array Value} (h : Lie w0 L w1) (hg : (w1.alloc o).grownBy w' (some w1.heap.size)) (hK : Bk w' w1.heap.size t cs) : Lie w0 ((w1.heap.size, t, cs) :: L) w' := by
  refine ⟨below_of_gb (h.1.alloc h.sz o) hg h.sz (by have := h.sz; simp; omega), fun x hx => ?_⟩
  rcases List.mem_cons.1 hx with rfl | hx2
  · exact hK
  · have hx3 := h.2 x hx2
    exact (hx3.alloc o).grown hg (fun e => by injection e with e; have := hx3.lt; omega)
set_option maxRecDepth 100000 in
set_option maxHeartbeats 4000000 in
theorem rb_both (a b c d e f g h : Int) (w : World) (h1 : ¬ rc_emptyR a b c d) (h2 : ¬ rc_emptyR e f g h) : Calls Tryz.prog 60 #[rc_rect4 a b c d, rc_rect4 e f g h] w fun e' w' => e' = .returned (rcv (bothR a b c d e f g h)) ∧ Below w.heap.size w w' := by
  have hL := (((Lie.start w).alloc (rc_rectA a b c d) 59).alloc (rc_rectA e f g h) 59).alloc (rc_rectA 0 0 0 0) 59
  simp only [World.size_alloc] at hL
  have HE : Hid (bothR a b c d e f g h = if rc_emptyR (max a e) (max b f) (min c g) (min d h) then (0, 0, 0, 0) else (max a e, max b f, min c g, min d h)) := by
    unfold bothR Hid
    by_cases h3 : rc_emptyR (max a e) (max b f) (min c g) (min d h)
    · rw [if_pos (.inr (.inr h3)), if_pos h3]
    · rw [if_neg (by rintro (h | h | h) <;> contradiction), if_neg h3]
  have k2 := hL.k 2 (by simp)
  have k3 := hL.k 1 (by simp)
  simp only [List.getElem_cons_zero, List.getElem_cons_succ] at k2 k3
  have hN1 := fun w' => rc_rnorm_ok a b c d w' h1
  have hN2 := fun w' => rc_rnorm_ok e f g h w' h2
  clear h1 h2
  go_enter Tryz.func60, Tryz.ntmps60
  go_upto_region 2 with (first
    | (refine rc_ldRect rfl _ rfl k2 rfl ?_)
    | (go_at_call 79; (with_reducible refine (hN1 _).mono ?_); rintro e' w1 ⟨rfl, hb1⟩; have hL1 := hL.nx hb1; have hK1 := Bk.new w1 59 (rc_rectA 0 0 0 0))
    | (refine rc_stRect rfl _ _ rfl hK1 rfl rfl rfl ?_; intro w2 k42 hg2 hs2))
  have hL2 := hL1.rbput hg2 k42
  have k32 : Bk w2 (w.heap.size + 1) 59 (rc_rectA e f g h) := hL2.k 2 (by simp)
  clear hL1 hL hb1 hK1 k2 k3 hg2 hs2 hN1
  go_upto_region 3 with (first
    | (refine rc_ldRect rfl _ rfl k32 rfl ?_)
    | (go_at_call 79; (with_reducible refine (hN2 _).mono ?_); rintro e' w3 ⟨rfl, hb3⟩; have hL3 := hL2.nx hb3; have hK3 := Bk.new w3 59 (rc_rectA 0 0 0 0))
    | (refine rc_stRect rfl _ _ rfl hK3 rfl rfl rfl ?_; intro w4 k44 hg4 hs4))
  have hL4 := hL3.rbput hg4 k44
  generalize w1.heap.size = g5 at *
  generalize w3.heap.size = g6 at *
  have k54 : Bk w4 g5 59 (rc_rectA a b c d) := hL4.k 1 (by simp)
  have kr4 : Bk w4 (w.heap.size + 1 + 1) 59 (rc_rectA 0 0 0 0) := hL4.k 2 (by simp)
  obtain ⟨x0, x1, x2, x3⟩ := k54.cell4
  obtain ⟨y0, y1, y2, y3⟩ := k44.cell4
  clear hL3 hL2 hb3 hK3 k32 k42 hg4 hs4 hN2 k44 k54
  by_cases h3 : rc_emptyR (max a e) (max b f) (min c g) (min d h)
  · have hN := fun w' => rc_rnorm_e _ _ _ _ w' h3
    rw [if_pos h3] at HE
    clear h3
    go_wp2_with (first
      | (go_at_call 79; (with_reducible refine (hN _).mono ?_); rintro e' w5 ⟨rfl, hb5⟩; have hL5 := hL4.nx hb5; have kr5 := kr4.nx hb5)
      | (refine rc_stRect rfl _ _ rfl kr5 rfl rfl rfl ?_; intro w6 k46 hg6 hs6))
    refine bodyPost_ret (rc_res_rect rfl k46 rfl) rfl ?_
    exact ⟨by rw [HE.out], below_of_gb hL5.bel hg6 (by omega) hL5.sz⟩
  · have hN := fun w' => rc_rnorm_ok _ _ _ _ w' h3
    rw [if_neg h3] at HE
    clear h3
    go_wp2_with (first
      | (go_at_call 79; (with_reducible refine (hN _).mono ?_); rintro e' w5 ⟨rfl, hb5⟩; have hL5 := hL4.nx hb5; have kr5 := kr4.nx hb5)
      | (refine rc_stRect rfl _ _ rfl kr5 rfl rfl rfl ?_; intro w6 k46 hg6 hs6))
    refine bodyPost_ret (rc_res_rect rfl k46 rfl) rfl ?_
    exact ⟨by rw [HE.out], below_of_gb hL5.bel hg6 (by omega) hL5.sz⟩
theorem rb_all (W H C : Int) (A : Option Addr) (n c : Nat) (w : World) : Calls Tryz.prog 61 #[.agg #[.int .i64 W, .int .i64 H, .int .i64 C, .slice A n c]] w fun e w' => e = .returned (rc_rect4 0 0 W H) ∧ Below w.heap.size w w' := by
  go_enter Tryz.func61, Tryz.ntmps61
  go_wp2
  go_returns
  exact ⟨rfl, by go_grown⟩
end Go.Proofs.YtahiaeaobbofbaaGreat
end
section
set_option linter.unusedVariables false
namespace Go.Proofs.YtahiaeaobbofbaaGreat
open Go.RowKit
theorem rowQ {W H C a c y : Int} (hC : 1 ≤ C ∧ C ≤ 4) (hW : 1 ≤ W ∧ W ≤ 32768) (hH : 1 ≤ H ∧ H ≤ 32768) (ha : 0 ≤ a ∧ a < c) (hc : c ≤ W) (hy : 0 ≤ y ∧ y < H) :
    ∃ q rn : Nat, (y * W + a) * C = q ∧ (c - a) * C = rn ∧ (y * W + (c - 1)) * C + C = ((q + rn : Nat) : Int) ∧ 1 ≤ rn ∧ rn ≤ 131072 ∧ ((q + rn : Nat) : Int) ≤ W * H * C := by
  obtain ⟨r1, ⟨r2, r2'⟩, r3⟩ := row_bd hC hW hH ha hc hy
  refine ⟨((y * W + a) * C).toNat, ((c - a) * C).toNat, by omega, by omega, ?_, by omega, by omega, by omega⟩
  have e1 : (y * W + (c - 1)) * C + C = (y * W + a) * C + (c - a) * C := by
    rw [← Int.add_mul, show y * W + a + (c - a) = y * W + (c - 1) + 1 by omega, Int.add_mul (y * W + (c - 1)) 1 C, Int.one_mul]
  omega
set_option maxRecDepth 100000 in
set_option maxHeartbeats 16000000 in
theorem rcrop_in (m : Im) (A : Option Addr) (cp : Nat) (a b c d : Int) (w : World) (hck : checkC m.W m.H m.C m.px.length = 0) (ha : 0 ≤ a ∧ a < c) (hc : c ≤ m.W) (hb : 0 ≤ b ∧ b < d) (hd : d ≤ m.H) (hcp : m.px.length ≤ cp) (hr : Rd w w.heap.size A (m.px.map (Value.int .u8))) :
    Calls Tryz.prog 40 #[.agg #[.int .i64 m.W, .int .i64 m.H, .int .i64 m.C, .slice A m.px.length cp], rc_rect4 a b c d] w (CropP m a b c d w) := by
  have hRL := fun j : Nat => fun hj : b + j < m.H => rowL_len m a b c j hck ha hc hb.1 hj
  have hCS := fun k => cropL_succ m a b c k
  obtain ⟨hf, hl⟩ := ck_parts hck
  obtain ⟨hcc, hw1, hw2, hh1, hh2, hp⟩ := fitsC_ok hf
  have hC4 : 1 ≤ m.C ∧ m.C ≤ 4 := by omega
  have hRQ := fun y : Int => fun hy : 0 ≤ y ∧ y < m.H => rowQ (C := m.C) hC4 ⟨hw1, hw2⟩ ⟨hh1, hh2⟩ ha hc hy
  obtain ⟨eb, ene⟩ := bothR_in (W := m.W) (H := m.H) ⟨hw1, hw2⟩ ⟨hh1, hh2⟩ ha hc hb hd
  have hP := fun (x y : Int) (hx : 0 ≤ x ∧ x < m.W) (hy : 0 ≤ y ∧ y < m.H) w' => rplace_in m A cp x y w' hck hx hy
  have hI := fun w' => rcheck_ok m.W m.H m.C A m.px.length cp w' hck

  have hAr := fun w' => rc_rarea_any a b c d w'
  have harn : (rc_areaR a b c d == 0) = false := by
    unfold rc_areaR
    rw [if_neg ene]
    split
    · decide
    · have := Int.mul_pos (show 0 < c - a by omega) (show 0 < d - b by omega)
      simp; omega
  obtain ⟨ar, har⟩ : ∃ ar, rc_areaR a b c d = ar := ⟨_, rfl⟩
  rw [har] at hAr harn
  have hBo := fun w' => rb_both a b c d 0 0 m.W m.H w' ene (by rintro (h | h | h); exact h ⟨⟨by omega, by omega⟩, ⟨by omega, by omega⟩, ⟨by omega, by omega⟩, ⟨by omega, by omega⟩⟩; omega; omega)
  rw [eb] at hBo
  have hAll := fun w' => rb_all m.W m.H m.C A m.px.length cp w'
  have hNq := fun w' => rb_neq a b c d a b c d w'
  rw [decide_eq_true rfl] at hNq
  have hL := (((Lie.start w).alloc #[.int .i64 m.W, .int .i64 m.H, .int .i64 m.C, .slice A m.px.length cp] 44).alloc (rc_rectA a b c d) 59).alloc #[.int .i64 0, .int .i64 0, .int .i64 0, .slice none 0 0] 44
  simp only [World.size_alloc] at hL
  have k0 : Bk _ w.heap.size 44 #[.int .i64 m.W, .int .i64 m.H, .int .i64 m.C, .slice A m.px.length cp] := hL.k 2 (by simp)
  have k1 : Bk _ (w.heap.size + 1) 59 (rc_rectA a b c d) := hL.k 1 (by simp)
  have kR : Bk _ (w.heap.size + 1 + 1) 44 #[.int .i64 0, .int .i64 0, .int .i64 0, .slice none 0 0] := hL.k 0 (by simp)
  have hb0 := hL.bel
  have e1 : wrap64 (c - a) = c - a := IntWalk.wrap64_in _ ⟨by omega, by omega⟩
  have e2 : wrap64 (d - b) = d - b := IntWalk.wrap64_in _ ⟨by omega, by omega⟩
  have e3 : wrap64 (c - 1) = c - 1 := IntWalk.wrap64_in _ ⟨by omega, by omega⟩
  have hpl : (m.px.length : Int) ≤ 16777216 := by have := mul3_bd m.W m.H m.C (by have := Int.mul_nonneg (show 0 ≤ m.W by omega) (show 0 ≤ m.H by omega); omega) hp (by omega) (by omega); omega
  obtain ⟨W, H, C, px⟩ := m
  unfold CropP
  simp only at *
  clear hf hp ene eb hck har hL
  have HL := Lib.hid hl
  have HCC := Lib.hid hcc
  have HRL := Lib.hid hRL
  have HCS := Lib.hid hCS
  have HRQ := Lib.hid hRQ
  have HP := Lib.hid hP
  clear hl hcc hRL hCS hRQ hP
  obtain ⟨D, hD⟩ : ∃ D : Nat, (d - b) = (D : Int) := ⟨(d - b).toNat, by omega⟩
  have HD := Lib.hid hD
  have hD1 : d - b ≤ D := by omega
  have hD2 : (D : Int) ≤ d - b := by omega
  clear hD
  go_enter Tryz.func40, Tryz.ntmps40
  go_upto_region 4 with (first
    | (refine ldB rfl _ _ rfl k0 rfl Tryz.underlying44 rfl img_size ?_)
    | (go_at_call 44; (with_reducible refine (hI _).mono ?_); rintro e w1 ⟨rfl, hb1⟩))
  have k01 := k0.nx hb1
  have k11 := k1.nx hb1
  have kR1 := kR.nx hb1
  have hb01 := hb0.trans (hb1.mono hb0.size)
  clear k0 k1 kR hb1 hb0
  have x0 := fun (n : Nat) (os : Array Obj) => cell_regrown (k01.cell4.1) n os
  have x1 := fun (n : Nat) (os : Array Obj) => cell_regrown (k01.cell4.2.1) n os
  have x2 := fun (n : Nat) (os : Array Obj) => cell_regrown (k01.cell4.2.2.1) n os
  have x3 := fun (n : Nat) (os : Array Obj) => cell_regrown (k01.cell4.2.2.2) n os
  have y0 := fun (n : Nat) (os : Array Obj) => cell_regrown (k11.cell4.1) n os
  have y1 := fun (n : Nat) (os : Array Obj) => cell_regrown (k11.cell4.2.1) n os
  have y2 := fun (n : Nat) (os : Array Obj) => cell_regrown (k11.cell4.2.2.1) n os
  have y3 := fun (n : Nat) (os : Array Obj) => cell_regrown (k11.cell4.2.2.2) n os
  refine wp_region_quiet_below (by kernel_rfl) (by kernel_rfl) ?_
  repeat (first
    | go_big_quiet_step ((first | with_reducible exact quiet_below (hAr _) | with_reducible exact quiet_below (hAll _) | with_reducible exact quiet_below (hBo _)))
    | quiet_step ((first | with_reducible exact quiet_below (hAr _) | with_reducible exact quiet_below (hAll _) | with_reducible exact quiet_below (hBo _))))
  refine wpQuiet_nil ?_
  intro _ hw'
  obtain ⟨⟨d9, os⟩, hw''⟩ := hw'
  subst hw''
  have hbx := below_regrown w1 d9 os
  have k02 := k01.nx hbx
  have k12 := k11.nx hbx
  have kR2 := kR1.nx hbx
  have hb2 := hb01.trans (hbx.mono hb01.size)
  clear x0 x1 x2 x3 y0 y1 y2 y3 k01 k11 kR1 hb01 hbx hAr hAll hBo hNq
  generalize Go.Sort.grow (redrawn w1 d9) os = w2 at *
  obtain ⟨t0, t1, t2, t3⟩ := k12.cell4
  go_upto_region 7 with fail
  have hown0 := World.ownsRow_nil w2 w2.heap.size 5 1
  obtain ⟨G, hG⟩ : ∃ G, w2.heap.size = G := ⟨_, rfl⟩
  have hz2 := kR2.lt
  rw [hG] at hown0 hz2
  have HG := Lib.hid hG
  clear hG
  go_wp2_with fail
  go_loopw [7, 8] (fun v yv wr => ∃ j : Nat, j ≤ D ∧ yv = .int .i64 (b + j) ∧ wr.ownsRow G 5 1 v (cropL ⟨W, H, C, px⟩ a b c j).length ((cropL ⟨W, H, C, px⟩ a b c j).map (Value.int .u8)) ∧ (cropL ⟨W, H, C, px⟩ a b c j).length ≤ j * 131072 ∧
      Bk wr w.heap.size 44 #[.int .i64 W, .int .i64 H, .int .i64 C, .slice A px.length cp] ∧ Bk wr (w.heap.size + 1) 59 (rc_rectA a b c d) ∧ Bk wr (w.heap.size + 1 + 1) 44 #[.int .i64 0, .int .i64 0, .int .i64 0, .slice none 0 0] ∧ Below w.heap.size w wr ∧ G ≤ wr.heap.size) (fun _ yv _ => (d - intOf yv).toNat)
  case atStart => exact ⟨0, by omega, by go_num, hown0, by simp [cropL], k02, k12, kR2, hb2, by have := HG.out; omega⟩
  case round =>
    clear hown0 k02 k12 kR2 hb2 t0 t1 t2 t3
    obtain ⟨j, hj, rfl, hown, hlen, k0, k1, kR, hbr, hGr⟩ := hrel
    obtain ⟨t0, t1, t2, t3⟩ := k1.cell4
    obtain ⟨s0, s1, s2, s3⟩ := k0.cell4
    by_cases hlt : j < D
    · have hy : 0 ≤ b + j ∧ b + j < H := ⟨by omega, by omega⟩
      obtain ⟨q, rn, hq1, hq2, hq3, hrn1, hrn2, hqp⟩ := HRQ.out (b + j) hy
      have hPa := HP.out a (b + j) ⟨by omega, by omega⟩ hy
      have hPc := HP.out (c - 1) (b + j) ⟨by omega, by omega⟩ hy
      rw [hq1] at hPa
      obtain ⟨z2, hz2e⟩ : ∃ z2, ((b + j) * W + (c - 1)) * C = z2 := ⟨_, rfl⟩
      rw [hz2e] at hPc hq3
      have hlr := HRL.out j hy.2
      have hcs := HCS.out j
      have hpw := HL.out
      have hRw : rowL ⟨W, H, C, px⟩ a b c j = (px.drop q).take rn := by
        unfold rowL
        simp only
        rw [hq1, hq2]; rfl
      have hqn : q + rn ≤ px.length := by omega
      have hqc : q + rn ≤ cp := by omega
      obtain ⟨b2, o2, rfl, hbb2, hcc2⟩ := hr.get 0 (by simp; omega)
      clear hbb2 hcc2
      have hr2 : Rd wr w.heap.size (some ⟨b2, o2 + q, none⟩) ((rowL ⟨W, H, C, px⟩ a b c j).map (Value.int .u8)) := by
        rw [hRw, List.map_take, List.map_drop]
        exact ((hr.below hbr).dropk q).take rn
      have hlt2 : b + (j : Int) < d := by omega
      have v1 : wrap64 (b + (j : Int) + 1) = b + j + 1 := IntWalk.wrap64_in _ ⟨by omega, by omega⟩
      have v3 : wrap64 (z2 + C) = ((q + rn : Nat) : Int) := by rw [hq3]; exact IntWalk.wrap64_in _ ⟨by omega, by omega⟩
      have hlr2 : (rowL ⟨W, H, C, px⟩ a b c j).length = rn := by rw [hlr, hq2]; rfl
      have hlen2 : (cropL ⟨W, H, C, px⟩ a b c j).length ≤ 32768 * 131072 := Nat.le_trans hlen (Nat.mul_le_mul_right _ (by omega))
      have hcl : (cropL ⟨W, H, C, px⟩ a b c (j + 1)).length ≤ (j + 1) * 131072 := by rw [hcs, List.length_append, hlr2]; omega
      have HCL := Lib.hid hcl
      have HCS2 := Lib.hid hcs
      have hP2 : ∀ w', Calls Tryz.prog 18 #[.agg #[.int .i64 W, .int .i64 H, .int .i64 C, .slice (some ⟨b2, o2, none⟩) px.length cp], .int .i64 (c - 1), .int .i64 (b + j), .int .i64 0] w' fun e w'' => e = .returned (.int .i64 z2) ∧ Below w'.heap.size w' w'' := hPc
      clear hPc hcl hcs hlr hRw HRQ HRL HCS HL HCC HP hpw hq1 hq2 hq3 hz2e hqp
      have y0 := fun (n : Nat) (os : Array Obj) => cell_regrown t0 n os
      have y2 := fun (n : Nat) (os : Array Obj) => cell_regrown t2 n os
      have x0 := fun (n : Nat) (os : Array Obj) => cell_regrown s0 n os
      have x1 := fun (n : Nat) (os : Array Obj) => cell_regrown s1 n os
      have x2 := fun (n : Nat) (os : Array Obj) => cell_regrown s2 n os
      have x3 := fun (n : Nat) (os : Array Obj) => cell_regrown s3 n os
      go_upto_region 10 with fail
      clear t0 t1 t2 t3 s0 s1 s2 s3
      refine wp_region_quiet_tail 18 (by kernel_rfl) (by kernel_rfl) ?_
      simp only [List.take_succ_cons, List.take_zero, List.drop_succ_cons, List.drop_zero]
      repeat (first
        | go_big_quiet_step ((first | with_reducible exact quiet_below (hPa _) | with_reducible exact quiet_below (hP2 _)))
        | quiet_step ((first | with_reducible exact quiet_below (hPa _) | with_reducible exact quiet_below (hP2 _))))
      refine wpQuiet_nil ?_
      intro _ hw'
      obtain ⟨⟨d9, os⟩, hw''⟩ := hw'
      subst hw''
      have hbx := below_regrown wr d9 os
      have k0x := k0.nx hbx
      have k1x := k1.nx hbx
      have kRx := kR.nx hbx
      have hownx := own_below hown hbx (Nat.le_refl _)
      have hbrx := hbr.trans (hbx.mono hbr.size)
      have hrx := hr2.below' hbx (by have := hbr.size; omega)
      have hGx : G ≤ (Go.Sort.grow (redrawn wr d9) os).heap.size := Nat.le_trans hGr hbx.size
      clear y0 y2 x0 x1 x2 x3 k0 k1 kR hown hbr hr2 hbx hPa hP2
      generalize Go.Sort.grow (redrawn wr d9) os = wx at *
      have hq0 : q + rn - q = rn := by omega
      go_wp2_with (at_builtin; refine appR rfl _ _ _ rfl Tryz.underlying42 u8_info rfl (by decide) rfl rfl hownx hbrx (by omega) hGx (B' := w.heap.size) (news := (rowL ⟨W, H, C, px⟩ a b c j).map (Value.int .u8)) hrx (by rw [List.length_map, hlr2]; omega) (intsL _) (by omega) (by omega) ?_; intro v9 w9 hown9 hb9 hz9 hg9 _; have k09 := ca_far k0x hg9 (fun b hb e => by have := own_ge hownx b hb; omega); have k19 := ca_far k1x hg9 (fun b hb e => by have := own_ge hownx b hb; omega); have kR9 := ca_far kRx hg9 (fun b hb e => by have := own_ge hownx b hb; omega))
      rw [hq0] at hown9
      have hw2 : (cropL ⟨W, H, C, px⟩ a b c j).length + rn = (cropL ⟨W, H, C, px⟩ a b c (j + 1)).length := by rw [HCS2.out, List.length_append, hlr2]
      have hw3 : (cropL ⟨W, H, C, px⟩ a b c j).map (Value.int .u8) ++ (rowL ⟨W, H, C, px⟩ a b c j).map (Value.int .u8) = (cropL ⟨W, H, C, px⟩ a b c (j + 1)).map (Value.int .u8) := by rw [HCS2.out, List.map_append]
      replace hown9 := own_cnt hown9 hw2 hw3
      clear hw2 hw3
      refine ⟨⟨j + 1, by omega, by go_num, hown9, HCL.out, k09, k19, kR9, hb9, Nat.le_trans hGx hz9⟩, by simp [intOf]; omega⟩
    · obtain rfl : j = D := by omega
      have hge := own_ge hown
      obtain ⟨A9, c9, rfl, _⟩ := own_form hown
      have hMd := fun w' => made_any (c - a) (d - b) C A9 (cropL ⟨W, H, C, px⟩ a b c j).length c9 w'
      go_wp2_with (first
        | (go_at_call 62; (with_reducible refine (hMd _).mono ?_); rintro e w3 ⟨rfl, hb3⟩; have kR3 := kR.nx hb3)
        | (refine stB (ty := 44) (cells := #[.int .i64 (c - a), .int .i64 (d - b), .int .i64 C, .slice A9 (cropL ⟨W, H, C, px⟩ a b c j).length c9]) rfl _ _ rfl kR3 rfl rfl img_size rfl (by simp [Value.oneCell']) ?_; intro w' hK' hg' hs'))
      refine bodyPost_ret (res_cell_tmp rfl hK' rfl Tryz.underlying44 rfl img_size) rfl ?_
      have hD3 : (d - b).toNat = j := by rw [HD.out]; rfl
      rw [hD3]
      have ho3 := own_below hown hb3 (Nat.le_refl _)
      have hb33 := hbr.trans (hb3.mono hbr.size)
      have hGw : w.heap.size ≤ G := by rw [← HG.out]; exact Nat.le_of_lt (Nat.lt_of_lt_of_le (Nat.lt_of_lt_of_le (Nat.lt_succ_self _) (Nat.le_succ _)) (Nat.le_of_lt (by rw [HG.out]; omega)))
      exact ⟨_, rfl, own_base (own_gbc ho3 hg' (fun b hb e => by have := hge b hb; injection e with e; omega)) hGw, below_of_gb hb33 hg' (by omega) hb33.size⟩
end Go.Proofs.YtahiaeaobbofbaaGreat
end
