/- Several texts in one: The cache's layers: whether a place is in a rectangle; an image's tiles. The cache's layers: a store's images and tiles. The cache's layers: a channel of a pixel; a part of an image. -/
import Derived.Test.YtahiaeaobbofbaaGreatKA
import Derived.Test.YtahiaeaobbofbaaGreatGr
import Derived.Laws.StructEq
import Derived.Deep.Cut
import Derived.Deep.DeepCutAuto
import Derived.Test.YtahiaeaobbofbaaGreatSS5
import Derived.Test.YtahiaeaobbofbaaGreatSS2
section
set_option linter.unusedVariables false
namespace Go.Proofs.YtahiaeaobbofbaaGreat
open Go.RowKit
set_option maxHeartbeats 1000000 in
theorem rc_has_any (a b c d x y : Int) (w : World) : Calls Tryz.prog 64 #[rc_rect4 a b c d, .int .i64 x, .int .i64 y] w fun e w' => e = .returned (.bool (rc_hasB a b c d x y)) ∧ Below w.heap.size w w' := by
  by_cases he : rc_emptyR a b c d
  · have hd' : decide (rc_emptyR a b c d) = true := decide_eq_true he
    have HE := Lib.hid he
    clear he
    go_enter Tryz.func64, Tryz.ntmps64
    go_wp2_with (go_at_call 81; (with_reducible refine (rc_empty_any _ _ _ _ _).mono ?_); rintro e w' ⟨rfl, hb⟩; have hcb := bcell hb; have hb1 := rc_bl_alloc hb; have hz1 := hb1.size)
    go_returns
    exact ⟨ret_bool (by rw [rc_hasB_e HE.out]), hb1⟩
  · have hd' : decide (rc_emptyR a b c d) = false := decide_eq_false he
    have HE := Lib.hid he
    clear he
    go_enter Tryz.func64, Tryz.ntmps64
    go_wp2_with (go_at_call 81; (with_reducible refine (rc_empty_any _ _ _ _ _).mono ?_); rintro e w' ⟨rfl, hb⟩; have hcb := bcell hb; have hb1 := rc_bl_alloc hb; have hz1 := hb1.size)
    all_goals
      go_returns
      refine ⟨ret_bool ?_, hb1⟩
      have hb2 := HE.out
      clear hcb hb
      first
        | (rw [rc_hasB_yes hb2 (by omega) (by omega) (by omega) (by omega)]; done)
        | (rw [rc_hasB_no (by omega)]; done)
        | (rw [rc_hasB_yes hb2 (by omega) (by omega) (by omega) (by omega)]; simp; omega)
        | (rw [rc_hasB_no (by omega)]; simp; omega)
        | (by_cases h4 : y < d; (rw [rc_hasB_yes hb2 (by omega) (by omega) (by omega) (by omega)]; simp [h4]); (rw [rc_hasB_no (by omega)]; simp [h4]; try omega))

theorem eq4_bool (a b c d e f g h : Int) : decide ((a, b, c, d) = (e, f, g, h)) = ((a == e) && ((b == f) && ((c == g) && (d == h)))) := by
  by_cases h1 : a = e <;> by_cases h2 : b = f <;> by_cases h3 : c = g <;> by_cases h4 : d = h <;> simp [h1, h2, h3, h4]
theorem eql_rect (a b c d e f g h : Int) (w : World) : (binOp .eql 59 (rc_rect4 a b c d) (rc_rect4 e f g h)).run Tryz.prog w = .ok (.bool (decide ((a, b, c, d) = (e, f, g, h)))) w := by
  rw [eq4_bool]
  simp [go_sem, Tryz.underlying59]
  by_cases h1 : a = e <;> by_cases h2 : b = f <;> by_cases h3 : c = g <;> by_cases h4 : d = h <;> simp [h1, h2, h3, h4]
set_option maxRecDepth 100000 in
set_option maxHeartbeats 4000000 in
theorem rcin_any (a b c d e f g h : Int) (w : World) (h1 : ¬ rc_emptyR a b c d) : Calls Tryz.prog 88 #[rc_rect4 a b c d, rc_rect4 e f g h] w fun e' w' => e' = .returned (.bool (decide (bothR a b c d e f g h = (a, b, c, d)))) ∧ Below w.heap.size w w' := by
  have hL := ((Lie.start w).alloc (rc_rectA a b c d) 59).alloc (rc_rectA e f g h) 59
  simp only [World.size_alloc] at hL
  have k2 := hL.k 1 (by simp)
  have k3 := hL.k 0 (by simp)
  simp only [List.getElem_cons_zero, List.getElem_cons_succ] at k2 k3
  have hE1 := fun w' => rc_empty_any a b c d w'
  rw [show decide (rc_emptyR a b c d) = false from decide_eq_false h1] at hE1
  have hB := fun w' => both_any a b c d e f g h w'
  obtain ⟨⟨p, q, r, s⟩, hP⟩ : ∃ p, bothR a b c d e f g h = p := ⟨_, rfl⟩
  rw [hP] at hB ⊢
  clear hP h1
  dsimp only [rcv] at hB
  have hq := eql_rect p q r s a b c d
  go_enter Tryz.func88, Tryz.ntmps88
  go_wp2_with fail
  generalize hw1 : (w.alloc (.cells (rc_rectA a b c d) 59)).alloc (.cells (rc_rectA e f g h) 59) = w1 at *
  clear hw1
  obtain ⟨d0, d1, d2, d3⟩ := k2.cell4
  obtain ⟨f0, f1, f2, f3⟩ := k3.cell4
  have r0 := fun (n : Nat) (os : Array Obj) => cell_regrown d0 n os
  have r1 := fun (n : Nat) (os : Array Obj) => cell_regrown d1 n os
  have r2 := fun (n : Nat) (os : Array Obj) => cell_regrown d2 n os
  have r3 := fun (n : Nat) (os : Array Obj) => cell_regrown d3 n os
  have s0 := fun (n : Nat) (os : Array Obj) => cell_regrown f0 n os
  have s1 := fun (n : Nat) (os : Array Obj) => cell_regrown f1 n os
  have s2 := fun (n : Nat) (os : Array Obj) => cell_regrown f2 n os
  have s3 := fun (n : Nat) (os : Array Obj) => cell_regrown f3 n os
  refine wp_region_quiet_below (by kernel_rfl) (by kernel_rfl) ?_
  repeat (first
    | go_big_quiet_step ((first | with_reducible exact quiet_below (hE1 _) | with_reducible exact quiet_below (hB _)))
    | quiet_step ((first | with_reducible exact quiet_below (hE1 _) | with_reducible exact quiet_below (hB _))))
  refine wpQuiet_nil ?_
  intro _ hw'
  obtain ⟨⟨dd, os⟩, hw''⟩ := hw'
  subst hw''
  have hbx := below_regrown w1 dd os
  generalize Go.Sort.grow (redrawn w1 dd) os = wx at *
  have hb := (hL.nx hbx).bel
  clear r0 r1 r2 r3 s0 s1 s2 s3 hE1 hB
  go_wp2_with fail
  go_returns
  exact ⟨ret_bool (by simp), hb⟩
set_option maxRecDepth 100000 in
set_option maxHeartbeats 4000000 in
theorem gwhole_any (W H TW TH : Int) (w : World) : Calls Tryz.prog 65 #[grV W H TW TH] w fun e w' => e = .returned (rc_rect4 0 0 W H) ∧ Below w.heap.size w w' := by
  have hL := ((Lie.start w).alloc (grA W H TW TH) 97).alloc (rc_rectA 0 0 0 0) 59
  simp only [World.size_alloc] at hL
  have k0 : Bk _ w.heap.size 97 (grA W H TW TH) := hL.k 1 (by simp)
  have hK : Bk _ (w.heap.size + 1) 59 (rc_rectA 0 0 0 0) := hL.k 0 (by simp)
  obtain ⟨c0, c1, c2, c3⟩ := k0.cell4
  have hb := hL.bel
  go_enter Tryz.func65, Tryz.ntmps65
  go_wp2_with (refine stB (ty := 59) (cells := rc_rectA 0 0 W H) rfl _ _ rfl hK rfl rfl rc_rect_size rfl (by simp [Value.oneCell']) ?_; intro w' hK' hg' _)
  refine bodyPost_ret (res_cell rfl hK' rfl Tryz.underlying59 rfl rc_rect_size) rfl ?_
  exact ⟨rfl, below_of_gb hb hg' (by omega) hb.size⟩
/-- The tile that has a place. -/
def tlI (W TW TH x y : Int) : Int := y / TH * grN W TW + x / TW
theorem tl_bd {W H TW TH x y : Int} (h0 : grC W H TW TH = 0) (hx : 0 ≤ x ∧ x < W) (hy : 0 ≤ y ∧ y < H) : (0 ≤ x / TW ∧ x / TW < grN W TW) ∧ (0 ≤ y / TH ∧ y / TH < grN H TH) ∧ 0 ≤ y / TH * grN W TW ∧ y / TH * grN W TW ≤ 36864 * 36864 := by
  obtain ⟨hW, hH, hTW, hTH⟩ := grC_zero.1 h0
  obtain ⟨n0, n1, _⟩ := grN_bd hW hTW
  obtain ⟨m0, m1, _⟩ := grN_bd hH hTH
  have a0 : 0 ≤ x / TW := Int.ediv_nonneg (by omega) (by omega)
  have b0 : 0 ≤ y / TH := Int.ediv_nonneg (by omega) (by omega)
  have a1 : x / TW < grN W TW := by
    unfold grN
    rw [Int.lt_iff_add_one_le, Int.le_ediv_iff_mul_le (by omega), Int.add_mul]
    have := Int.ediv_mul_le x (show TW ≠ 0 by omega)
    omega
  have b1 : y / TH < grN H TH := by
    unfold grN
    rw [Int.lt_iff_add_one_le, Int.le_ediv_iff_mul_le (by omega), Int.add_mul]
    have := Int.ediv_mul_le y (show TH ≠ 0 by omega)
    omega
  exact ⟨⟨a0, a1⟩, ⟨b0, b1⟩, Int.mul_nonneg b0 (by omega), Int.mul_le_mul (by omega) n1 (by omega) (by omega)⟩
theorem rc_ne {W H TW TH : Int} (h0 : grC W H TW TH = 0) : ¬ rc_emptyR 0 0 W H := by
  obtain ⟨hW, hH, _⟩ := grC_zero.1 h0
  intro h
  rcases h with h | h | h
  · exact h ⟨⟨by omega, by omega⟩, ⟨by omega, by omega⟩, ⟨by omega, by omega⟩, ⟨by omega, by omega⟩⟩
  · omega
  · omega
set_option maxRecDepth 100000 in
set_option maxHeartbeats 8000000 in
theorem gof_in (W H TW TH x y : Int) (w : World) (h0 : grC W H TW TH = 0) (hx : 0 ≤ x ∧ x < W) (hy : 0 ≤ y ∧ y < H) :
    Calls Tryz.prog 42 #[grV W H TW TH, .int .i64 x, .int .i64 y] w fun e w' => e = .returned (.tuple #[.int .i64 (tlI W TW TH x y), .bool true]) ∧ Below w.heap.size w w' := by
  obtain ⟨⟨a0, a1⟩, ⟨b0, b1⟩, c0, c1⟩ := tl_bd h0 hx hy
  obtain ⟨hW, hH, hTW, hTH⟩ := grC_zero.1 h0
  obtain ⟨n0, n1, _⟩ := grN_bd hW hTW
  obtain ⟨m0, m1, _⟩ := grN_bd hH hTH
  have hH1 := rc_hasB_yes (rc_ne h0) hx.1 hx.2 hy.1 hy.2
  have hL := (Lie.start w).alloc (grA W H TW TH) 97
  have hK : Bk (w.alloc (.cells (grA W H TW TH) 97)) w.heap.size 97 (grA W H TW TH) := hL.k 0 (by simp)
  have hR := fun w' => gright_any W H TW TH w'
  rw [h0] at hR
  have hWh := fun w' => gwhole_any W H TW TH w'
  have hHa := fun w' => rc_has_any 0 0 W H x y w'
  rw [hH1] at hHa
  have hC := fun w' => gcols_any W H TW TH w' h0
  have e1 : Int.tdiv y TH = y / TH := Int.tdiv_eq_ediv_of_nonneg (by omega)
  have e2 : Int.tdiv x TW = x / TW := Int.tdiv_eq_ediv_of_nonneg (by omega)
  have q1 : ¬ (TH = 0) := by omega
  have q2 : ¬ (TW = 0) := by omega
  have q3 : (TH == -1) = false := by simp; omega
  have q4 : (TW == -1) = false := by simp; omega
  have q5 : (TH == 0) = false := by simp; omega
  have q6 : (TW == 0) = false := by simp; omega
  have HT : Hid (tlI W TW TH x y = y / TH * grN W TW + x / TW) := rfl
  have bY : y / TH ≤ 36864 := by omega
  have bX : x / TW ≤ 36864 := by omega
  clear h0 hH1 hW hH n0 m0 m1 b1 a1 n1
  generalize y / TH = Y at *
  generalize x / TW = X at *
  generalize grN W TW = N at *
  obtain ⟨p, hp⟩ : ∃ p, Y * N = p := ⟨_, rfl⟩
  rw [hp] at c0 c1
  have w1 : IntKind.i64.wrap (Y * N) = p := by rw [IntWalk.i64_in _ ⟨by omega, by omega⟩]; exact hp
  have w2 : IntKind.i64.wrap (p + X) = p + X := IntWalk.i64_in _ ⟨by omega, by omega⟩
  have w3 : IntKind.i64.wrap Y = Y := IntWalk.i64_in _ ⟨by omega, by omega⟩
  have w4 : IntKind.i64.wrap X = X := IntWalk.i64_in _ ⟨by omega, by omega⟩
  go_enter Tryz.func42, Tryz.ntmps42
  go_upto_region 3 with (first
    | (refine ldB rfl _ _ rfl hK rfl Tryz.underlying97 rfl gr_size ?_)
    | (go_at_call 63; (with_reducible refine (hR _).mono ?_); rintro e w1 ⟨rfl, hb1⟩; have hL1 := hL.nx hb1; have hK1 := hK.nx hb1; obtain ⟨c0', c1', c2', c3'⟩ := hK1.cell4)
    | (refine ldB rfl _ _ rfl hK1 rfl Tryz.underlying97 rfl gr_size ?_)
    | (go_at_call 65; (with_reducible refine (hWh _).mono ?_); rintro e w2 ⟨rfl, hb2⟩; have hL2 := hL1.nx hb2; have hK2 := hK1.nx hb2)
    | (go_at_call 64; (with_reducible refine (hHa _).mono ?_); rintro e w3 ⟨rfl, hb3⟩; have hL3 := hL2.nx hb3; have hK3 := hK2.nx hb3))
  obtain ⟨d0, d1, d2, d3⟩ := hK3.cell4
  have r0 := fun (n : Nat) (os : Array Obj) => cell_regrown d0 n os
  have r1 := fun (n : Nat) (os : Array Obj) => cell_regrown d1 n os
  have r2 := fun (n : Nat) (os : Array Obj) => cell_regrown d2 n os
  have r3 := fun (n : Nat) (os : Array Obj) => cell_regrown d3 n os
  clear hR hWh hHa hL hK hL1 hK1 hL2 hK2 hb1 hb2 hb3 c0' c1' c2' c3' d0 d1 d2 d3 hK3
  refine wp_region_quiet_below (by kernel_rfl) (by kernel_rfl) ?_
  repeat (first
    | go_big_quiet_step (with_reducible exact quiet_below (hC _))
    | quiet_step (with_reducible exact quiet_below (hC _)))
  refine wpQuiet_nil ?_
  intro _ hw'
  obtain ⟨⟨d9, os⟩, hw''⟩ := hw'
  subst hw''
  have hLx := hL3.nx (below_regrown w3 d9 os)
  generalize Go.Sort.grow (redrawn w3 d9) os = wx at *
  go_wp2_with fail
  go_returns
  exact ⟨by rw [HT.out, hp]; rfl, hLx.bel⟩
set_option maxRecDepth 100000 in
set_option maxHeartbeats 8000000 in
theorem gof_out (W H TW TH x y : Int) (w : World) (h0 : grC W H TW TH = 0) (ho : ¬ (0 ≤ x ∧ x < W ∧ 0 ≤ y ∧ y < H)) :
    Calls Tryz.prog 42 #[grV W H TW TH, .int .i64 x, .int .i64 y] w fun e w' => e = .returned (.tuple #[.int .i64 0, .bool false]) ∧ Below w.heap.size w w' := by
  have hH1 : rc_hasB 0 0 W H x y = false := rc_hasB_no ho
  have hL := (Lie.start w).alloc (grA W H TW TH) 97
  have hK : Bk (w.alloc (.cells (grA W H TW TH) 97)) w.heap.size 97 (grA W H TW TH) := hL.k 0 (by simp)
  have hR := fun w' => gright_any W H TW TH w'
  rw [h0] at hR
  have hWh := fun w' => gwhole_any W H TW TH w'
  have hHa := fun w' => rc_has_any 0 0 W H x y w'
  rw [hH1] at hHa
  clear h0 hH1 ho
  go_enter Tryz.func42, Tryz.ntmps42
  go_wp2_with (first
    | (refine ldB rfl _ _ rfl hK rfl Tryz.underlying97 rfl gr_size ?_)
    | (go_at_call 63; (with_reducible refine (hR _).mono ?_); rintro e w1 ⟨rfl, hb1⟩; have hL1 := hL.nx hb1; have hK1 := hK.nx hb1; obtain ⟨c0', c1', c2', c3'⟩ := hK1.cell4)
    | (go_at_call 65; (with_reducible refine (hWh _).mono ?_); rintro e w2 ⟨rfl, hb2⟩; have hL2 := hL1.nx hb2)
    | (go_at_call 64; (with_reducible refine (hHa _).mono ?_); rintro e w3 ⟨rfl, hb3⟩; have hL3 := hL2.nx hb3))
  go_returns
  exact ⟨rfl, hL3.bel⟩
set_option maxRecDepth 100000 in
set_option maxHeartbeats 8000000 in
theorem gof_zero (x y : Int) (w : World) : Calls Tryz.prog 42 #[grV 0 0 0 0, .int .i64 x, .int .i64 y] w fun e w' => e = .returned (.tuple #[.int .i64 0, .bool false]) ∧ Below w.heap.size w w' := by
  have hL := (Lie.start w).alloc (grA 0 0 0 0) 97
  have hK : Bk (w.alloc (.cells (grA 0 0 0 0) 97)) w.heap.size 97 (grA 0 0 0 0) := hL.k 0 (by simp)
  have hR := fun w' => gright_any 0 0 0 0 w'
  rw [show grC 0 0 0 0 = 12 by decide] at hR
  go_enter Tryz.func42, Tryz.ntmps42
  go_wp2_with (first
    | (refine ldB rfl _ _ rfl hK rfl Tryz.underlying97 rfl gr_size ?_)
    | (go_at_call 63; (with_reducible refine (hR _).mono ?_); rintro e w1 ⟨rfl, hb1⟩; have hL1 := hL.nx hb1))
  go_returns
  exact ⟨rfl, hL1.bel⟩
/-- Where a tile begins. -/
def tlX (W TW i : Int) : Int := i % grN W TW * TW
def tlY (W TW TH i : Int) : Int := i / grN W TW * TH
theorem grN_mul {W T : Int} (hT : 1 ≤ T) : grN W T * T ≤ W + T - 1 := by
  unfold grN
  exact Int.ediv_mul_le _ (by omega)
theorem tl_xy {W H TW TH i : Int} (h0 : grC W H TW TH = 0) (hi : 0 ≤ i ∧ i < grN W TW * grN H TH) : (0 ≤ tlX W TW i ∧ tlX W TW i < W) ∧ (0 ≤ tlY W TW TH i ∧ tlY W TW TH i < H) ∧ 0 ≤ i % grN W TW ∧ i % grN W TW < grN W TW ∧ 0 ≤ i / grN W TW ∧ i / grN W TW < grN H TH := by
  obtain ⟨hW, hH, hTW, hTH⟩ := grC_zero.1 h0
  obtain ⟨n0, n1, _⟩ := grN_bd hW hTW
  obtain ⟨m0, m1, _⟩ := grN_bd hH hTH
  have r0 := Int.emod_nonneg i (show grN W TW ≠ 0 by omega)
  have r1 := Int.emod_lt_of_pos i (show 0 < grN W TW by omega)
  have d0 : 0 ≤ i / grN W TW := Int.ediv_nonneg hi.1 (by omega)
  have d1 : i / grN W TW < grN H TH := Int.ediv_lt_of_lt_mul (by omega) (by rw [Int.mul_comm]; exact hi.2)
  have e1 := grN_mul (W := W) hTW.1
  have e2 := grN_mul (W := H) hTH.1
  refine ⟨⟨Int.mul_nonneg r0 (by omega), ?_⟩, ⟨Int.mul_nonneg d0 (by omega), ?_⟩, r0, r1, d0, d1⟩
  · have : (i % grN W TW + 1) * TW ≤ grN W TW * TW := Int.mul_le_mul_of_nonneg_right (by omega) (by omega)
    rw [Int.add_mul] at this
    unfold tlX; omega
  · have : (i / grN W TW + 1) * TH ≤ grN H TH * TH := Int.mul_le_mul_of_nonneg_right (by omega) (by omega)
    rw [Int.add_mul] at this
    unfold tlY; omega
theorem both_tl {W H TW TH X Y : Int} (h0 : grC W H TW TH = 0) (hX : 0 ≤ X ∧ X < W) (hY : 0 ≤ Y ∧ Y < H) : bothR X Y (X + TW) (Y + TH) 0 0 W H = (X, Y, min (X + TW) W, min (Y + TH) H) := by
  obtain ⟨hW, hH, hTW, hTH⟩ := grC_zero.1 h0
  unfold bothR
  rw [if_neg]
  · rw [show max X 0 = X by omega, show max Y 0 = Y by omega]
  · intro h
    rcases h with h | h | h
    · rcases h with h | h | h
      · exact h ⟨⟨by omega, by omega⟩, ⟨by omega, by omega⟩, ⟨by omega, by omega⟩, ⟨by omega, by omega⟩⟩
      · omega
      · omega
    · exact rc_ne h0 h
    · rcases h with h | h | h
      · exact h ⟨⟨by omega, by omega⟩, ⟨by omega, by omega⟩, ⟨by omega, by omega⟩, ⟨by omega, by omega⟩⟩
      · omega
      · omega
set_option maxRecDepth 100000 in
set_option maxHeartbeats 16000000 in
theorem gtile_in (W H TW TH i : Int) (w : World) (h0 : grC W H TW TH = 0) (hi : 0 ≤ i ∧ i < grN W TW * grN H TH) :
    Calls Tryz.prog 56 #[grV W H TW TH, .int .i64 i] w fun e w' => e = .returned (.tuple #[rc_rect4 (tlX W TW i) (tlY W TW TH i) (min (tlX W TW i + TW) W) (min (tlY W TW TH i + TH) H), .bool true]) ∧ Below w.heap.size w w' := by
  obtain ⟨⟨x0, x1⟩, ⟨y0, y1⟩, r0, r1, d0, d1⟩ := tl_xy h0 hi
  obtain ⟨hW, hH, hTW, hTH⟩ := grC_zero.1 h0
  obtain ⟨n0, n1, _⟩ := grN_bd hW hTW
  obtain ⟨m0, m1, _⟩ := grN_bd hH hTH
  have hB := fun w' => both_any (tlX W TW i) (tlY W TW TH i) (tlX W TW i + TW) (tlY W TW TH i + TH) 0 0 W H w'
  rw [both_tl h0 ⟨x0, x1⟩ ⟨y0, y1⟩] at hB
  dsimp only [rcv] at hB
  have hL := ((Lie.start w).alloc (grA W H TW TH) 97).alloc (rc_rectA 0 0 0 0) 59
  simp only [World.size_alloc] at hL
  have hK : Bk _ w.heap.size 97 (grA W H TW TH) := hL.k 1 (by simp)
  obtain ⟨c0, c1, c2, c3⟩ := hK.cell4
  have hWh := fun w' => gwhole_any W H TW TH w'
  have hC := fun w' => gcols_any W H TW TH w' h0
  have hN := fun w' => gcount_any W H TW TH w' h0
  have e1 : Int.tmod i (grN W TW) = i % grN W TW := Int.tmod_eq_emod_of_nonneg hi.1
  have e2 : Int.tdiv i (grN W TW) = i / grN W TW := Int.tdiv_eq_ediv_of_nonneg hi.1
  have q1 : ¬ (grN W TW = 0) := by omega
  have q3 : (grN W TW == -1) = false := by simp; omega
  have q5 : (grN W TW == 0) = false := by simp; omega
  have p1 : grN W TW * grN H TH ≤ 36864 * 36864 := Int.mul_le_mul n1 m1 (by omega) (by omega)
  have eX : IntKind.i64.wrap (i % grN W TW * TW) = tlX W TW i := IntWalk.i64_in _ ⟨by unfold tlX at x0; omega, by unfold tlX at x1; omega⟩
  have eY : IntKind.i64.wrap (i / grN W TW * TH) = tlY W TW TH i := IntWalk.i64_in _ ⟨by unfold tlY at y0; omega, by unfold tlY at y1; omega⟩
  have w3 : IntKind.i64.wrap (i / grN W TW) = i / grN W TW := IntWalk.i64_in _ ⟨by omega, by omega⟩
  have w4 : IntKind.i64.wrap (i % grN W TW) = i % grN W TW := IntWalk.i64_in _ ⟨by omega, by omega⟩
  have w5 : IntKind.i64.wrap (tlX W TW i + TW) = tlX W TW i + TW := IntWalk.i64_in _ ⟨by omega, by omega⟩
  have w6 : IntKind.i64.wrap (tlY W TW TH i + TH) = tlY W TW TH i + TH := IntWalk.i64_in _ ⟨by omega, by omega⟩
  have hi0 : ¬ (i < 0) := by omega
  have hi1 := hi.2
  clear h0 hW hH hTW hTH n0 n1 m0 m1 r0 r1 d0 d1 x0 x1 y0 y1 hi
  generalize tlX W TW i = X at *
  generalize tlY W TW TH i = Y at *
  generalize grN W TW * grN H TH = NM at *
  generalize i % grN W TW = R at *
  generalize i / grN W TW = D at *
  generalize grN W TW = N at *
  generalize min (X + TW) W = U at *
  generalize min (Y + TH) H = V at *
  go_enter Tryz.func56, Tryz.ntmps56
  go_upto_region 3 with (first
    | (refine ldB rfl _ _ rfl hK rfl Tryz.underlying97 rfl gr_size ?_)
    | (go_at_call 77; (with_reducible refine (hN _).mono ?_); rintro e w1 ⟨rfl, hb1⟩; have hL1 := hL.nx hb1; have hK1 := hK.nx hb1; obtain ⟨d0, d1, d2, d3⟩ := hK1.cell4))
  have r0 := fun (n : Nat) (os : Array Obj) => cell_regrown d0 n os
  have r1 := fun (n : Nat) (os : Array Obj) => cell_regrown d1 n os
  have r2 := fun (n : Nat) (os : Array Obj) => cell_regrown d2 n os
  have r3 := fun (n : Nat) (os : Array Obj) => cell_regrown d3 n os
  clear hN hL hK hb1 c0 c1 c2 c3 d0 d1 d2 d3
  refine wp_region_quiet_below (by kernel_rfl) (by kernel_rfl) ?_
  repeat (first
    | go_big_quiet_step (with_reducible exact quiet_below (hC _))
    | quiet_step (with_reducible exact quiet_below (hC _)))
  refine wpQuiet_nil ?_
  intro _ hw'
  obtain ⟨⟨d9, os⟩, hw''⟩ := hw'
  subst hw''
  have hLx := hL1.nx (below_regrown w1 d9 os)
  have hKx : Bk (Go.Sort.grow (redrawn w1 d9) os) w.heap.size 97 (grA W H TW TH) := hLx.k 1 (by simp)
  clear r0 r1 r2 r3 hL1 hK1
  generalize Go.Sort.grow (redrawn w1 d9) os = wx at *
  go_upto_region 4 with fail
  have hKx' := hKx.nx (Below.refl _ wx)
  obtain ⟨d0, d1, d2, d3⟩ := hKx.cell4
  have r0 := fun (n : Nat) (os : Array Obj) => cell_regrown d0 n os
  have r1 := fun (n : Nat) (os : Array Obj) => cell_regrown d1 n os
  have r2 := fun (n : Nat) (os : Array Obj) => cell_regrown d2 n os
  have r3 := fun (n : Nat) (os : Array Obj) => cell_regrown d3 n os
  clear d0 d1 d2 d3
  refine wp_region_quiet_tail 14 (by kernel_rfl) (by kernel_rfl) ?_
  simp only [List.take_succ_cons, List.take_zero, List.drop_succ_cons, List.drop_zero]
  repeat (first
    | go_big_quiet_step ((first | with_reducible exact quiet_below (hWh _) | with_reducible exact quiet_below (hB _)))
    | quiet_step ((first | with_reducible exact quiet_below (hWh _) | with_reducible exact quiet_below (hB _))))
  refine wpQuiet_nil ?_
  intro _ hw'
  obtain ⟨⟨d9, os⟩, hw''⟩ := hw'
  subst hw''
  have hLy := hLx.nx (below_regrown wx d9 os)
  have kR : Bk (Go.Sort.grow (redrawn wx d9) os) (w.heap.size + 1) 59 (rc_rectA 0 0 0 0) := hLy.k 0 (by simp)
  clear r0 r1 r2 r3 hLx hKx hKx'
  generalize Go.Sort.grow (redrawn wx d9) os = wy at *
  have hb := hLy.bel
  go_wp2_with (refine stB (ty := 59) (cells := rc_rectA X Y U V) rfl _ _ rfl kR rfl rfl rc_rect_size rfl (by simp [Value.oneCell']) ?_; intro w' hK' hg' _)
  refine bodyPost_ret (res_cell_tmp rfl hK' rfl Tryz.underlying59 rfl rc_rect_size) rfl ?_
  exact ⟨rfl, below_of_gb hb hg' (by omega) hb.size⟩
end Go.Proofs.YtahiaeaobbofbaaGreat
end
section
set_option linter.unusedVariables false
namespace Go.Proofs.YtahiaeaobbofbaaGreat
open Go.RowKit
abbrev soA (A : Option Addr) (n c : Nat) (tw th cnt : Int) : Array Value := #[.slice A n c, .int .i64 tw, .int .i64 th, .int .i64 cnt]
/-- A store's block, and its images. -/
structure Sto (lo : Nat) (w : World) (gs : Nat) (A : Option Addr) (n c : Nat) (tw th cnt : Int) (ims : List Im) : Prop where
  k : Bk w gs 79 (soA A n c tw th cnt)
  im : ImsAt w lo A ims
  len : ims.length = n
  small : n ≤ 100000
  ck : ∀ m ∈ ims, checkC m.W m.H m.C m.px.length = 0
  tws : (1 ≤ tw ∧ tw ≤ 4096) ∧ (1 ≤ th ∧ th ≤ 4096)
section
variable {lo gs n c : Nat} {w w' : World} {A : Option Addr} {tw th cnt : Int} {ims : List Im}
theorem Sto.nx (h : Sto lo w gs A n c tw th cnt ims) (hb : Below w.heap.size w w') : Sto lo w' gs A n c tw th cnt ims := ⟨h.k.nx hb, h.im.nx hb (Nat.le_refl _), h.len, h.small, h.ck, h.tws⟩
theorem Sto.gr (h : Sto lo w gs A n c tw th cnt ims) (k : Nat) (hk : k < ims.length) : grC ims[k].W ims[k].H tw th = 0 := by
  obtain ⟨hf, _⟩ := ck_parts (h.ck ims[k] (List.getElem_mem hk))
  obtain ⟨_, hw1, hw2, hh1, hh2, _⟩ := fitsC_ok hf
  exact grC_zero.2 ⟨⟨hw1, hw2⟩, ⟨hh1, hh2⟩, h.tws.1, h.tws.2⟩
theorem slevels_any (h : Sto lo w gs A n c tw th cnt ims) : Calls Tryz.prog 34 #[.pointer (some ⟨gs, 0, none⟩)] w fun e w' => e = .returned (.int .i64 n) ∧ w = w' := by
  have hK := h.k
  have c0 := hK.cell4.1
  go_enter Tryz.func34, Tryz.ntmps34
  go_wp2_with fail
  go_returns
  exact ⟨rfl, rfl⟩
theorem sis_any (h : Sto lo w gs A n c tw th cnt ims) (k : Int) : Calls Tryz.prog 67 #[.pointer (some ⟨gs, 0, none⟩), .int .i64 k] w fun e w' => e = .returned (.bool (decide (0 ≤ k ∧ k < n))) ∧ w = w' := by
  have hS := slevels_any h
  by_cases h0 : 0 ≤ k
  · go_enter Tryz.func67, Tryz.ntmps67
    go_wp2_with (go_at_call 34; (with_reducible refine hS.mono ?_); rintro e w1 ⟨rfl, rfl⟩)
    go_returns
    exact ⟨ret_bool (by simp [h0]), rfl⟩
  · go_enter Tryz.func67, Tryz.ntmps67
    go_wp2_with fail
    go_returns
    exact ⟨ret_bool (by simp; omega), rfl⟩
set_option maxRecDepth 100000 in
set_option maxHeartbeats 4000000 in
theorem ssize_in (h : Sto lo w gs A n c tw th cnt ims) (k : Nat) (hk : k < ims.length) : Calls Tryz.prog 48 #[.pointer (some ⟨gs, 0, none⟩), .int .i64 k] w fun e w' => e = .returned (.tuple #[.int .i64 ims[k].W, .int .i64 ims[k].H]) ∧ Below w.heap.size w w' := by
  have hI := sis_any h k
  have hkn : (k : Int) < n := by have := h.len; omega
  rw [show decide (0 ≤ (k : Int) ∧ (k : Int) < n) = true from decide_eq_true ⟨by omega, hkn⟩] at hI
  have hkb : (k : Int) ≤ 100000 := by have := h.small; omega
  have hkn' : k < n := by omega
  have c0 := h.k.cell4.1
  obtain ⟨b, o, Ai, ci, rfl, _, hbw, q0, q1, q2, q3, hci, hri⟩ := h.im.get k hk
  generalize ims[k].W = X at *
  generalize ims[k].H = Y at *
  clear h hri hci q2 q3 hk
  go_enter Tryz.func48, Tryz.ntmps48
  go_wp2_with (go_at_call 67; (with_reducible refine hI.mono ?_); rintro e w1 ⟨rfl, rfl⟩)
  go_quiet ((fail))
  go_wp2_with fail
  go_returns
  exact ⟨rfl, below_drewN (Below.refl _ _) _⟩
set_option maxRecDepth 100000 in
set_option maxHeartbeats 4000000 in
theorem sgrid_in (h : Sto lo w gs A n c tw th cnt ims) (k : Nat) (hk : k < ims.length) : Calls Tryz.prog 43 #[.pointer (some ⟨gs, 0, none⟩), .int .i64 k] w fun e w' => e = .returned (grV ims[k].W ims[k].H tw th) ∧ Below w.heap.size w w' := by
  have hL := (Lie.start w).alloc (grA 0 0 0 0) 97
  have hs := h.nx ((Below.refl w.heap.size w).alloc (Nat.le_refl _) (.cells (grA 0 0 0 0) 97))
  have hI := sis_any hs k
  have hkn : (k : Int) < n := by have := h.len; omega
  rw [show decide (0 ≤ (k : Int) ∧ (k : Int) < n) = true from decide_eq_true ⟨by omega, hkn⟩] at hI
  have hZ := ssize_in hs k hk
  generalize ims[k].W = X at *
  generalize ims[k].H = Y at *
  have kg : Bk _ w.heap.size 97 (grA 0 0 0 0) := hL.k 0 (by simp)
  have ks := hs.k
  clear hs h hk hkn
  go_enter Tryz.func43, Tryz.ntmps43
  go_upto_region 4 with (first
    | (go_at_call 67; (with_reducible refine hI.mono ?_); rintro e w1 ⟨rfl, rfl⟩)
    | (go_at_call 48; (with_reducible refine hZ.mono ?_); rintro e w2 ⟨rfl, hb2⟩))
  have hL2 := hL.nx hb2
  have ks2 := ks.nx hb2
  obtain ⟨d0, d1, d2, d3⟩ := ks2.cell4
  have r1 := fun (n : Nat) (os : Array Obj) => cell_regrown d1 n os
  have r2 := fun (n : Nat) (os : Array Obj) => cell_regrown d2 n os
  clear hL ks hI hZ hb2 kg d0 d1 d2 d3 ks2
  refine wp_region_quiet_tail 11 (by kernel_rfl) (by kernel_rfl) ?_
  simp only [List.take_succ_cons, List.take_zero, List.drop_succ_cons, List.drop_zero]
  repeat (first | go_big_quiet_step (fail) | quiet_step (fail))
  refine wpQuiet_nil ?_
  intro _ hw'
  obtain ⟨⟨d9, os⟩, hw''⟩ := hw'
  subst hw''
  have hLy := hL2.nx (below_regrown w2 d9 os)
  have kR : Bk (Go.Sort.grow (redrawn w2 d9) os) w.heap.size 97 (grA 0 0 0 0) := hLy.k 0 (by simp)
  clear r1 r2 hL2
  generalize Go.Sort.grow (redrawn w2 d9) os = wy at *
  have hb := hLy.bel
  go_wp2_with (refine stB (ty := 97) (cells := grA X Y tw th) rfl _ _ rfl kR rfl rfl gr_size rfl (by simp [Value.oneCell']) ?_; intro w' hK' hg' _)
  refine bodyPost_ret (res_cell rfl hK' rfl Tryz.underlying97 rfl gr_size) rfl ?_
  exact ⟨rfl, below_of_gb hb hg' (Nat.le_refl _) hb.size⟩
set_option maxRecDepth 100000 in
set_option maxHeartbeats 4000000 in
theorem sgrid_out (h : Sto lo w gs A n c tw th cnt ims) (k : Int) (hk : ¬ (0 ≤ k ∧ k < n)) : Calls Tryz.prog 43 #[.pointer (some ⟨gs, 0, none⟩), .int .i64 k] w fun e w' => e = .returned (grV 0 0 0 0) ∧ Below w.heap.size w w' := by
  have hL := (Lie.start w).alloc (grA 0 0 0 0) 97
  have hs := h.nx ((Below.refl w.heap.size w).alloc (Nat.le_refl _) (.cells (grA 0 0 0 0) 97))
  have hI := sis_any hs k
  rw [decide_eq_false hk] at hI
  have kg : Bk _ w.heap.size 97 (grA 0 0 0 0) := hL.k 0 (by simp)
  have hb := hL.bel
  clear hs h hk
  go_enter Tryz.func43, Tryz.ntmps43
  go_wp2_with (first
    | (go_at_call 67; (with_reducible refine hI.mono ?_); rintro e w1 ⟨rfl, rfl⟩)
    | (refine stB (ty := 97) (cells := grA 0 0 0 0) rfl _ _ rfl kg rfl rfl gr_size rfl (by simp [Value.oneCell']) ?_; intro w' hK' hg' _))
  refine bodyPost_ret (res_cell rfl hK' rfl Tryz.underlying97 rfl gr_size) rfl ?_
  exact ⟨rfl, below_of_gb hb hg' (Nat.le_refl _) hb.size⟩
theorem ti_size : (Tryz.prog.info? 48).map (·.size) = some 2 := by kernel_rfl
abbrev tiA (k i : Int) : Array Value := #[.int .i64 k, .int .i64 i]
set_option maxRecDepth 100000 in
set_option maxHeartbeats 4000000 in
theorem stile_in (h : Sto lo w gs A n c tw th cnt ims) (k : Nat) (hk : k < ims.length) (x y : Int) (hx : 0 ≤ x ∧ x < ims[k].W) (hy : 0 ≤ y ∧ y < ims[k].H) :
    Calls Tryz.prog 17 #[.pointer (some ⟨gs, 0, none⟩), .int .i64 k, .int .i64 x, .int .i64 y] w fun e w' => e = .returned (.tuple #[.agg (tiA k (tlI ims[k].W tw th x y)), .bool true]) ∧ Below w.heap.size w w' := by
  have hL := (Lie.start w).alloc (tiA 0 0) 48
  have hs := h.nx ((Below.refl w.heap.size w).alloc (Nat.le_refl _) (.cells (tiA 0 0) 48))
  have hG := sgrid_in hs k hk
  have hO := fun w' => gof_in ims[k].W ims[k].H tw th x y w' (h.gr k hk) hx hy
  generalize tlI ims[k].W tw th x y = I at *
  generalize ims[k].W = X at *
  generalize ims[k].H = Y at *
  clear hs h hk hx hy
  go_enter Tryz.func17, Tryz.ntmps17
  go_upto_region 4 with (first
    | (go_at_call 43; (with_reducible refine hG.mono ?_); rintro e w1 ⟨rfl, hb1⟩; have hL1 := hL.nx hb1)
    | (go_at_call 42; (with_reducible refine (hO _).mono ?_); rintro e w2 ⟨rfl, hb2⟩; have hL2 := hL1.nx hb2))
  have kR : Bk w2 w.heap.size 48 (tiA 0 0) := hL2.k 0 (by simp)
  have hb := hL2.bel
  go_wp2_with (refine stB (ty := 48) (cells := tiA k I) rfl _ _ rfl kR rfl rfl ti_size rfl (by simp [Value.oneCell']) ?_; intro w' hK' hg' _)
  refine bodyPost_ret (res_cell_tmp rfl hK' rfl Tryz.underlying48 rfl ti_size) rfl ?_
  exact ⟨rfl, below_of_gb hb hg' (Nat.le_refl _) hb.size⟩
set_option maxRecDepth 100000 in
set_option maxHeartbeats 4000000 in
theorem stile_no (h : Sto lo w gs A n c tw th cnt ims) (k x y : Int) (hno : ∀ j : Nat, (j : Int) = k → ∀ hj : j < ims.length, ¬ (0 ≤ x ∧ x < ims[j].W ∧ 0 ≤ y ∧ y < ims[j].H)) :
    Calls Tryz.prog 17 #[.pointer (some ⟨gs, 0, none⟩), .int .i64 k, .int .i64 x, .int .i64 y] w fun e w' => e = .returned (.tuple #[.agg (tiA 0 0), .bool false]) ∧ Below w.heap.size w w' := by
  have hL := (Lie.start w).alloc (tiA 0 0) 48
  have hs := h.nx ((Below.refl w.heap.size w).alloc (Nat.le_refl _) (.cells (tiA 0 0) 48))
  have h2 : ∃ X Y TW TH : Int, (∀ w' : World, Calls Tryz.prog 42 #[grV X Y TW TH, .int .i64 x, .int .i64 y] w' fun e w'' => e = .returned (.tuple #[.int .i64 0, .bool false]) ∧ Below w'.heap.size w' w'') ∧ Calls Tryz.prog 43 #[.pointer (some ⟨gs, 0, none⟩), .int .i64 k] (w.alloc (.cells (tiA 0 0) 48)) fun e w' => e = .returned (grV X Y TW TH) ∧ Below (w.alloc (.cells (tiA 0 0) 48)).heap.size (w.alloc (.cells (tiA 0 0) 48)) w' := by
    by_cases hk : 0 ≤ k ∧ k < n
    · have hkl : k.toNat < ims.length := by have := h.len; omega
      have e : ((k.toNat : Nat) : Int) = k := by omega
      have hG := sgrid_in hs k.toNat hkl
      rw [e] at hG
      exact ⟨_, _, _, _, fun w' => gof_out _ _ _ _ x y w' (h.gr _ hkl) (hno _ e hkl), hG⟩
    · exact ⟨0, 0, 0, 0, fun w' => gof_zero x y w', sgrid_out hs k hk⟩
  obtain ⟨X, Y, TW, TH, hO, hG⟩ := h2
  clear hs h hno
  go_enter Tryz.func17, Tryz.ntmps17
  go_upto_region 3 with (first
    | (go_at_call 43; (with_reducible refine hG.mono ?_); rintro e w1 ⟨rfl, hb1⟩; have hL1 := hL.nx hb1)
    | (go_at_call 42; (with_reducible refine (hO _).mono ?_); rintro e w2 ⟨rfl, hb2⟩; have hL2 := hL1.nx hb2))
  have kR : Bk w2 w.heap.size 48 (tiA 0 0) := hL2.k 0 (by simp)
  have hb := hL2.bel
  go_wp2_with (refine stB (ty := 48) (cells := tiA 0 0) rfl _ _ rfl kR rfl rfl ti_size rfl (by simp [Value.oneCell']) ?_; intro w' hK' hg' _)
  refine bodyPost_ret (res_cell_tmp rfl hK' rfl Tryz.underlying48 rfl ti_size) rfl ?_
  exact ⟨rfl, below_of_gb hb hg' (Nat.le_refl _) hb.size⟩
/-- The places of a tile. -/
def plA (m : Im) (tw th i : Int) : Array Value := rc_rectA (tlX m.W tw i) (tlY m.W tw th i) (min (tlX m.W tw i + tw) m.W) (min (tlY m.W tw th i + th) m.H)
set_option maxRecDepth 100000 in
set_option maxHeartbeats 4000000 in
theorem splace_in (h : Sto lo w gs A n c tw th cnt ims) (k : Nat) (hk : k < ims.length) (i : Int) (hi : 0 ≤ i ∧ i < grN ims[k].W tw * grN ims[k].H th) :
    Calls Tryz.prog 36 #[.pointer (some ⟨gs, 0, none⟩), .agg (tiA k i)] w fun e w' => e = .returned (.tuple #[.agg (plA ims[k] tw th i), .bool true]) ∧ Below w.heap.size w w' := by
  have hL := ((Lie.start w).alloc (tiA k i) 48).alloc (rc_rectA 0 0 0 0) 59
  simp only [World.size_alloc] at hL
  have hsz : w.heap.size ≤ ((w.alloc (.cells (tiA k i) 48)).alloc (.cells (rc_rectA 0 0 0 0) 59)).heap.size := by simp; omega
  have hs := h.nx hL.bel
  have hG : ∀ (d : Nat) (os : Array Obj), Calls Tryz.prog 43 #[.pointer (some ⟨gs, 0, none⟩), .int .i64 k] (Go.Sort.grow (redrawn ((w.alloc (.cells (tiA k i) 48)).alloc (.cells (rc_rectA 0 0 0 0) 59)) d) os) fun e w' => e = .returned (grV ims[k].W ims[k].H tw th) ∧ Below (Go.Sort.grow (redrawn ((w.alloc (.cells (tiA k i) 48)).alloc (.cells (rc_rectA 0 0 0 0) 59)) d) os).heap.size (Go.Sort.grow (redrawn ((w.alloc (.cells (tiA k i) 48)).alloc (.cells (rc_rectA 0 0 0 0) 59)) d) os) w' :=
    fun d os => sgrid_in (hs.nx (below_regrown _ d os)) k hk
  have hT := fun w' => gtile_in ims[k].W ims[k].H tw th i w' (h.gr k hk) hi
  have HP : Hid (plA ims[k] tw th i = rc_rectA (tlX ims[k].W tw i) (tlY ims[k].W tw th i) (min (tlX ims[k].W tw i + tw) ims[k].W) (min (tlY ims[k].W tw th i + th) ims[k].H)) := rfl
  generalize plA ims[k] tw th i = PL at *
  generalize min (tlX ims[k].W tw i + tw) ims[k].W = U at *
  generalize min (tlY ims[k].W tw th i + th) ims[k].H = V at *
  generalize tlX ims[k].W tw i = P at *
  generalize tlY ims[k].W tw th i = Q at *
  generalize ims[k].W = X at *
  generalize ims[k].H = Y at *
  have k0 : Bk _ w.heap.size 48 (tiA k i) := hL.k 1 (by simp)
  obtain ⟨c0, c1⟩ := k0.cell2
  have r0 := fun (n : Nat) (os : Array Obj) => cell_regrown c0 n os
  have r1 := fun (n : Nat) (os : Array Obj) => cell_regrown c1 n os
  clear hs h hk hi k0 c0 c1
  go_enter Tryz.func36, Tryz.ntmps36
  go_upto_region 1 with fail
  generalize (w.alloc (.cells (tiA k i) 48)).alloc (.cells (rc_rectA 0 0 0 0) 59) = w1 at *
  refine wp_region_quiet_tail 9 (by kernel_rfl) (by kernel_rfl) ?_
  simp only [List.take_succ_cons, List.take_zero, List.drop_succ_cons, List.drop_zero]
  repeat (first
    | go_big_quiet_step ((first | with_reducible exact quiet_below (hG _ _) | with_reducible exact quiet_below (hT _)))
    | quiet_step ((first | with_reducible exact quiet_below (hG _ _) | with_reducible exact quiet_below (hT _))))
  refine wpQuiet_nil ?_
  intro _ hw'
  obtain ⟨⟨d9, os⟩, hw''⟩ := hw'
  subst hw''
  have hLy := hL.nx (below_regrown w1 d9 os)
  have kR : Bk (Go.Sort.grow (redrawn w1 d9) os) (w.heap.size + 1) 59 (rc_rectA 0 0 0 0) := hLy.k 0 (by simp)
  clear r0 r1 hL hG hT
  generalize Go.Sort.grow (redrawn w1 d9) os = wy at *
  have hb := hLy.bel
  go_wp2_with (refine stB (ty := 59) (cells := rc_rectA P Q U V) rfl _ _ rfl kR rfl rfl rc_rect_size rfl (by simp [Value.oneCell']) ?_; intro w' hK' hg' _)
  refine bodyPost_ret (res_cell_tmp rfl hK' rfl Tryz.underlying59 rfl rc_rect_size) rfl ?_
  exact ⟨by rw [HP.out]; rfl, below_of_gb hb hg' (by omega) hb.size⟩
end
end Go.Proofs.YtahiaeaobbofbaaGreat
end
section
set_option linter.unusedVariables false
namespace Go.Proofs.YtahiaeaobbofbaaGreat
open Go.RowKit
theorem vw_size : (Tryz.prog.info? 113).map (·.size) = some 4 := by kernel_rfl
set_option maxRecDepth 100000 in
set_option maxHeartbeats 8000000 in
theorem vplace_in (W H C x y k : Int) (A : Option Addr) (n cp : Nat) (w : World) (hC : 1 ≤ C ∧ C ≤ 4) (hW : 1 ≤ W ∧ W ≤ 32768) (hH : 1 ≤ H ∧ H ≤ 32768) (hx : 0 ≤ x ∧ x < W) (hy : 0 ≤ y ∧ y < H) (hk : 0 ≤ k ∧ k < C) :
    Calls Tryz.prog 57 #[.agg #[.int .i64 W, .int .i64 H, .int .i64 C, .slice A n cp], .int .i64 x, .int .i64 y, .int .i64 k] w fun e w' => e = .returned (.tuple #[.int .i64 ((y * W + x) * C + k), .bool true]) ∧ Below w.heap.size w w' := by
  obtain ⟨⟨a1, a2⟩, ⟨a3, a4⟩, ⟨a5, a6⟩, a7⟩ := at_bd hC hW hH hx hy
  have hL := (Lie.start w).alloc #[.int .i64 W, .int .i64 H, .int .i64 C, .slice A n cp] 113
  have k0 : Bk _ w.heap.size 113 #[.int .i64 W, .int .i64 H, .int .i64 C, .slice A n cp] := hL.k 0 (by simp)
  obtain ⟨c0, c1, c2, c3⟩ := k0.cell4
  have hb := hL.bel
  obtain ⟨p, hp⟩ : ∃ p, y * W = p := ⟨_, rfl⟩
  rw [hp] at a1 a2 a3 a4 a5 a6
  obtain ⟨q, hq⟩ : ∃ q, (p + x) * C = q := ⟨_, rfl⟩
  rw [hq] at a5 a6
  have v1 : wrap64 (y * W) = p := by rw [IntWalk.wrap64_in _ ⟨by omega, by omega⟩]; exact hp
  have v2 : wrap64 (p + x) = p + x := IntWalk.wrap64_in _ ⟨by omega, by omega⟩
  have v3 : wrap64 ((p + x) * C) = q := by rw [IntWalk.wrap64_in _ ⟨by omega, by omega⟩]; exact hq
  have v4 : wrap64 (q + k) = q + k := IntWalk.wrap64_in _ ⟨by omega, by omega⟩
  rw [hp, hq]
  obtain ⟨x1, x2⟩ := hx
  obtain ⟨y1, y2⟩ := hy
  obtain ⟨k1, k2⟩ := hk
  clear hp hq a1 a2 a3 a4 a5 a6 a7 hL k0 hC hW hH
  go_enter Tryz.func57, Tryz.ntmps57
  go_wp2_with fail
  go_returns
  exact ⟨by show Ending.returned (.tuple #[.int .i64 (wrap64 (q + k)), .bool true]) = _; rw [v4], hb⟩
set_option maxRecDepth 100000 in
set_option maxHeartbeats 8000000 in
theorem iat_in (m : Im) (A : Option Addr) (cp : Nat) (x y k : Int) (w : World) (hck : checkC m.W m.H m.C m.px.length = 0) (hx : 0 ≤ x ∧ x < m.W) (hy : 0 ≤ y ∧ y < m.H) (hk : 0 ≤ k ∧ k < m.C) (hr : Rd w w.heap.size A (m.px.map (Value.int .u8))) :
    Calls Tryz.prog 37 #[.agg #[.int .i64 m.W, .int .i64 m.H, .int .i64 m.C, .slice A m.px.length cp], .int .i64 x, .int .i64 y, .int .i64 k] w fun e w' => e = .returned (.tuple #[.int .u8 (m.px.getD ((y * m.W + x) * m.C + k).toNat 0), .bool true]) ∧ Below w.heap.size w w' := by
  obtain ⟨W, H, C, px⟩ := m
  simp only at *
  obtain ⟨hf, hl⟩ := ck_parts hck
  obtain ⟨hc, hw1, hw2, hh1, hh2, hp⟩ := fitsC_ok hf
  have hC4 : 1 ≤ C ∧ C ≤ 4 := by omega
  obtain ⟨⟨a1, a2⟩, ⟨a3, a4⟩, ⟨a5, a6⟩, a7⟩ := at_bd hC4 ⟨hw1, hw2⟩ ⟨hh1, hh2⟩ hx hy
  have hP := fun w' => vplace_in W H C x y k A px.length cp w' hC4 ⟨hw1, hw2⟩ ⟨hh1, hh2⟩ hx hy hk
  have hI := fun w' => icheck_any W H C A px.length cp w'
  rw [hck] at hI
  have hL := (Lie.start w).alloc #[.int .i64 W, .int .i64 H, .int .i64 C, .slice A px.length cp] 44
  have k0 : Bk _ w.heap.size 44 #[.int .i64 W, .int .i64 H, .int .i64 C, .slice A px.length cp] := hL.k 0 (by simp)
  obtain ⟨q, hq⟩ : ∃ q : Nat, (y * W + x) * C + k = (q : Int) := ⟨((y * W + x) * C + k).toNat, by omega⟩
  have hql : q < px.length := by omega
  rw [hq] at hP ⊢
  have hrL := (hr.below hL.bel).more hL.sz
  obtain ⟨b, o, rfl, hbB, hc0⟩ := hrL.get q (by simpa using hql)
  have hrw : Rd w w.heap.size (some ⟨b, o, none⟩) (px.map (Value.int .u8)) := hr
  obtain ⟨b', o', e', hbw, hc0w⟩ := hrw.get q (by simpa using hql)
  injection e' with e'; injection e' with e1 e2; subst e1 e2
  have hx2 : (px.map (Value.int .u8))[q]'(by simpa using hql) = .int .u8 (px.getD q 0) := by
    rw [List.getElem_map, List.getD_eq_getElem?_getD, List.getElem?_eq_getElem hql]; rfl
  rw [hx2] at hc0w
  rw [show ((q : Int)).toNat = q by omega]
  generalize px.getD q 0 = z at *
  have hqn : (q : Int) < (px.length : Int) := by omega
  clear hx hy hk hck hf hl hc hw1 hw2 hh1 hh2 hp hC4 a1 a2 a3 a4 a5 a6 a7 hq hr hrw hrL hc0 hbB hx2 hql
  generalize px.length = n at *
  go_enter Tryz.func37, Tryz.ntmps37
  go_wp2_with (first
    | (refine ldB rfl _ _ rfl k0 rfl Tryz.underlying44 rfl img_size ?_)
    | (go_at_call 50; (with_reducible refine (hI _).mono ?_); rintro e w1 ⟨rfl, hb1⟩; have hL1 := hL.nx hb1; have k1 := k0.nx hb1)
    | (refine ldB rfl _ _ rfl k1 rfl Tryz.underlying44 rfl img_size ?_)
    | (go_at_call 57; (with_reducible refine (hP _).mono ?_); rintro e w2 ⟨rfl, hb2⟩; have hL2 := hL1.nx hb2; have k2 := k1.nx hb2; obtain ⟨d0, d1, d2, d3⟩ := k2.cell4; have z0 := (hL2.bel.cell (p := ⟨b, o + q, none⟩) hbw).trans hc0w))
  go_returns
  exact ⟨rfl, hL2.bel⟩
/-- The bytes of a row of a part. -/
def rowL (m : Im) (a b c : Int) (j : Nat) : List Int := (m.px.drop (((b + j) * m.W + a) * m.C).toNat).take ((c - a) * m.C).toNat
def cropL (m : Im) (a b c : Int) (k : Nat) : List Int := (List.range k).flatMap (rowL m a b c)
theorem cropL_succ (m : Im) (a b c : Int) (k : Nat) : cropL m a b c (k + 1) = cropL m a b c k ++ rowL m a b c k := by
  unfold cropL; rw [List.range_succ, List.flatMap_append]; simp
theorem row_bd {W H C a c y : Int} (hC : 1 ≤ C ∧ C ≤ 4) (hW : 1 ≤ W ∧ W ≤ 32768) (hH : 1 ≤ H ∧ H ≤ 32768) (ha : 0 ≤ a ∧ a < c) (hc : c ≤ W) (hy : 0 ≤ y ∧ y < H) :
    0 ≤ (y * W + a) * C ∧ (1 ≤ (c - a) * C ∧ (c - a) * C ≤ 131072) ∧ (y * W + a) * C + (c - a) * C ≤ W * H * C := by
  have e1 : 0 ≤ y * W := Int.mul_nonneg (by omega) (by omega)
  have e2 : y * W ≤ (H - 1) * W := Int.mul_le_mul_of_nonneg_right (by omega) (by omega)
  have e4 : y * W + c ≤ W * H := by rw [Int.sub_mul, Int.one_mul, Int.mul_comm H W] at e2; omega
  have e5 : (y * W + c) * C ≤ W * H * C := Int.mul_le_mul_of_nonneg_right e4 (by omega)
  have e6 : 0 ≤ (y * W + a) * C := Int.mul_nonneg (by omega) (by omega)
  have e7 : (c - a) * C ≤ 32768 * 4 := Int.mul_le_mul (by omega) (by omega) (by omega) (by omega)
  have e8 : 1 * 1 ≤ (c - a) * C := Int.mul_le_mul (by omega) (by omega) (by omega) (by omega)
  have e9 : (y * W + a) * C + (c - a) * C = (y * W + c) * C := by rw [← Int.add_mul]; congr 1; omega
  exact ⟨e6, ⟨by omega, by omega⟩, by omega⟩
theorem rowL_len (m : Im) (a b c : Int) (j : Nat) (hck : checkC m.W m.H m.C m.px.length = 0) (ha : 0 ≤ a ∧ a < c) (hc : c ≤ m.W) (hb : 0 ≤ b) (hj : b + j < m.H) : (rowL m a b c j).length = ((c - a) * m.C).toNat := by
  obtain ⟨hf, hl⟩ := ck_parts hck
  obtain ⟨hcc, hw1, hw2, hh1, hh2, hp⟩ := fitsC_ok hf
  obtain ⟨r1, r2, r3⟩ := row_bd (C := m.C) (by omega) ⟨hw1, hw2⟩ ⟨hh1, hh2⟩ ha hc (y := b + j) ⟨by omega, hj⟩
  unfold rowL
  rw [List.length_take, List.length_drop]
  omega
/-- A part's bytes lie in a row of one's own. -/
def CropP (m : Im) (a b c d : Int) (w : World) (e : Ending) (w' : World) : Prop :=
  ∃ v : Value, e = .returned (.tuple #[.agg #[.int .i64 (c - a), .int .i64 (d - b), .int .i64 m.C, v], .int .i64 0]) ∧ w'.ownsRow w.heap.size 5 1 v (cropL m a b c (d - b).toNat).length ((cropL m a b c (d - b).toNat).map (Value.int .u8)) ∧ Below w.heap.size w w'
theorem bothR_in {a b c d W H : Int} (hW : 1 ≤ W ∧ W ≤ 32768) (hH : 1 ≤ H ∧ H ≤ 32768) (ha : 0 ≤ a ∧ a < c) (hc : c ≤ W) (hb : 0 ≤ b ∧ b < d) (hd : d ≤ H) : bothR a b c d 0 0 W H = (a, b, c, d) ∧ ¬ rc_emptyR a b c d := by
  have h1 : ¬ rc_emptyR a b c d := by
    intro h
    rcases h with h | h | h
    · exact h ⟨⟨by omega, by omega⟩, ⟨by omega, by omega⟩, ⟨by omega, by omega⟩, ⟨by omega, by omega⟩⟩
    · omega
    · omega
  have h2 : ¬ rc_emptyR 0 0 W H := by
    intro h
    rcases h with h | h | h
    · exact h ⟨⟨by omega, by omega⟩, ⟨by omega, by omega⟩, ⟨by omega, by omega⟩, ⟨by omega, by omega⟩⟩
    · omega
    · omega
  refine ⟨?_, h1⟩
  unfold bothR
  rw [show max a 0 = a by omega, show max b 0 = b by omega, show min c W = c by omega, show min d H = d by omega, if_neg (fun h => by rcases h with h | h | h <;> first | exact h1 h | exact h2 h)]
theorem ca_far {w w' : World} {g : Nat} {row : Option Nat} {t : TypeId} {cs : Array Value} (h : Bk w g t cs) (hg : w.grownBy w' row) (hr : ∀ b, row = some b → b ≠ g) : Bk w' g t cs := (hg.block g h.lt (fun e => hr _ e.symm rfl)).trans h
theorem own_cnt {w : World} {base : Nat} {e : TypeId} {size n m : Nat} {v : Value} {xs ys : List Value} (h : w.ownsRow base e size v n xs) (e1 : n = m) (e2 : xs = ys) : w.ownsRow base e size v m ys := by subst e1 e2; exact h
theorem own_gbc {w w' : World} {base : Nat} {e : TypeId} {size n : Nat} {v : Value} {xs : List Value} {row : Option Nat} (h : w.ownsRow base e size v n xs) (hg : w.grownBy w' row) (hne : ∀ b, v.ownBlock = some b → some b ≠ row) : w'.ownsRow base e size v n xs := by
  rcases h.2 with ⟨h1, h2⟩ | ⟨g, cap, cur, hv, h0, hh, h1, h2, h3, hx⟩
  · exact ⟨h.1, .inl ⟨h1, h2⟩⟩
  · refine ⟨h.1, .inr ⟨g, cap, cur, hv, h0, ?_, h1, h2, h3, hx⟩⟩
    have hlt : g < w.heap.size := by
      rcases Nat.lt_or_ge g w.heap.size with hl | hl
      · exact hl
      · rw [Array.getElem?_eq_none hl] at hh; cases hh
    rw [hg.block g hlt (hne g (by subst hv; rfl))]; exact hh
set_option maxRecDepth 100000 in
set_option maxHeartbeats 16000000 in
theorem icrop_in (m : Im) (A : Option Addr) (cp : Nat) (a b c d : Int) (w : World) (hck : checkC m.W m.H m.C m.px.length = 0) (ha : 0 ≤ a ∧ a < c) (hc : c ≤ m.W) (hb : 0 ≤ b ∧ b < d) (hd : d ≤ m.H) (hcp : m.px.length ≤ cp) (hr : Rd w w.heap.size A (m.px.map (Value.int .u8))) :
    Calls Tryz.prog 73 #[.agg #[.int .i64 m.W, .int .i64 m.H, .int .i64 m.C, .slice A m.px.length cp], rc_rect4 a b c d] w (CropP m a b c d w) := by
  have hRL := fun j : Nat => fun hj : b + j < m.H => rowL_len m a b c j hck ha hc hb.1 hj
  have hCS := fun k => cropL_succ m a b c k
  obtain ⟨hf, hl⟩ := ck_parts hck
  obtain ⟨hcc, hw1, hw2, hh1, hh2, hp⟩ := fitsC_ok hf
  have hC4 : 1 ≤ m.C ∧ m.C ≤ 4 := by omega
  have hRB := fun y : Int => fun hy : 0 ≤ y ∧ y < m.H => row_bd (C := m.C) hC4 ⟨hw1, hw2⟩ ⟨hh1, hh2⟩ ha hc hy
  obtain ⟨eb, ene⟩ := bothR_in (W := m.W) (H := m.H) ⟨hw1, hw2⟩ ⟨hh1, hh2⟩ ha hc hb hd
  have hP := fun (y : Int) (hy : 0 ≤ y ∧ y < m.H) w' => vplace_in m.W m.H m.C a y 0 A m.px.length cp w' hC4 ⟨hw1, hw2⟩ ⟨hh1, hh2⟩ ⟨ha.1, by omega⟩ hy ⟨by omega, by omega⟩
  have hI := fun w' => icheck_any m.W m.H m.C A m.px.length cp w'
  rw [hck] at hI
  have hE := fun w' => rc_empty_any a b c d w'
  rw [decide_eq_false ene] at hE
  have hIn := fun w' => rcin_any a b c d 0 0 m.W m.H w' ene
  rw [decide_eq_true eb] at hIn
  have hL := (((Lie.start w).alloc #[.int .i64 m.W, .int .i64 m.H, .int .i64 m.C, .slice A m.px.length cp] 44).alloc (rc_rectA a b c d) 59).alloc #[.int .i64 0, .int .i64 0, .int .i64 0, .slice none 0 0] 44
  simp only [World.size_alloc] at hL
  have k0 : Bk _ w.heap.size 44 #[.int .i64 m.W, .int .i64 m.H, .int .i64 m.C, .slice A m.px.length cp] := hL.k 2 (by simp)
  have k1 : Bk _ (w.heap.size + 1) 59 (rc_rectA a b c d) := hL.k 1 (by simp)
  have e1 : wrap64 (c - a) = c - a := IntWalk.wrap64_in _ ⟨by omega, by omega⟩
  have e2 : wrap64 (d - b) = d - b := IntWalk.wrap64_in _ ⟨by omega, by omega⟩
  have hpl : (m.px.length : Int) ≤ 16777216 := by have := mul3_bd m.W m.H m.C (by have := Int.mul_nonneg (show 0 ≤ m.W by omega) (show 0 ≤ m.H by omega); omega) hp (by omega) (by omega); omega
  obtain ⟨W, H, C, px⟩ := m
  unfold CropP
  simp only at *
  clear hf hp ene eb hck
  have HL := Lib.hid hl
  have HCC := Lib.hid hcc
  have HRL := Lib.hid hRL
  have HCS := Lib.hid hCS
  have HRB := Lib.hid hRB
  have HP := Lib.hid hP
  clear hl hcc hRL hCS hRB hP
  obtain ⟨D, hD⟩ : ∃ D : Nat, (d - b) = (D : Int) := ⟨(d - b).toNat, by omega⟩
  have HD := Lib.hid hD
  have hD1 : d - b ≤ D := by omega
  have hD2 : (D : Int) ≤ d - b := by omega
  clear hD
  go_enter Tryz.func73, Tryz.ntmps73
  go_upto_region 6 with (first
    | (refine ldB rfl _ _ rfl k0 rfl Tryz.underlying44 rfl img_size ?_)
    | (go_at_call 50; (with_reducible refine (hI _).mono ?_); rintro e w1 ⟨rfl, hb1⟩; have hL1 := hL.nx hb1; have k01 := k0.nx hb1; have k11 := k1.nx hb1)
    | (refine ldB rfl _ _ rfl k11 rfl Tryz.underlying59 rfl rc_rect_size ?_)
    | (go_at_call 81; (with_reducible refine (hE _).mono ?_); rintro e w2 ⟨rfl, hb2⟩; have hL2 := hL1.nx hb2; have k02 := k01.nx hb2; have k12 := k11.nx hb2; obtain ⟨s0, s1, s2, s3⟩ := k02.cell4; obtain ⟨t0, t1, t2, t3⟩ := k12.cell4)
    | (go_at_call 88; (with_reducible refine (hIn _).mono ?_); rintro e w3 ⟨rfl, hb3⟩; have hL3 := hL2.nx hb3; have k03 := k02.nx hb3; have k13 := k12.nx hb3))
  clear hL hL1 hL2 hb1 hb2 hb3 hI hE hIn k0 k1 k01 k11 k02 k12 s0 s1 s2 s3 t0 t1 t2 t3
  obtain ⟨s0, s1, s2, s3⟩ := k03.cell4
  obtain ⟨t0, t1, t2, t3⟩ := k13.cell4
  have hN7 := Bk.new w3 44 #[.int .i64 0, .int .i64 0, .int .i64 0, .slice none 0 0]
  have hLN := hL3.alloc #[.int .i64 0, .int .i64 0, .int .i64 0, .slice none 0 0] 44
  have hz3 := k03.lt
  have hz13 := k13.lt
  have hzr : w.heap.size + 1 + 1 < w3.heap.size := (show Bk w3 (w.heap.size + 1 + 1) 44 #[.int .i64 0, .int .i64 0, .int .i64 0, .slice none 0 0] from hL3.k 0 (by simp)).lt
  go_upto_region 7 with (refine stB (ty := 44) (cells := #[.int .i64 (c - a), .int .i64 (d - b), .int .i64 C, .slice none 0 0]) rfl _ _ rfl hN7 rfl rfl img_size rfl (by simp [Value.oneCell']) ?_; intro w7 hK7 hg7 hs7)
  have hL7 := hLN.set hg7 hK7 (by omega) (by simp; omega)
  obtain ⟨G, hG⟩ : ∃ G, w3.heap.size = G := ⟨_, rfl⟩
  simp only [hG] at hL7 hK7 hz3 hz13 hzr ⊢
  clear hLN hg7 hs7 hN7 hL3 k03 k13 s0 s1 s2 s3 t0 t1 t2 t3 hG
  have k07 : Bk w7 w.heap.size 44 #[.int .i64 W, .int .i64 H, .int .i64 C, .slice A px.length cp] := hL7.k 3 (by simp)
  have k17 : Bk w7 (w.heap.size + 1) 59 (rc_rectA a b c d) := hL7.k 2 (by simp)
  have kR7 : Bk w7 (w.heap.size + 1 + 1) 44 #[.int .i64 0, .int .i64 0, .int .i64 0, .slice none 0 0] := hL7.k 1 (by simp)
  obtain ⟨t0, t1, t2, t3⟩ := k17.cell4
  have hb7 := hL7.bel
  have hown0 := World.ownsRow_nil w7 (G + 1) 5 1
  have hG7 := hK7.lt
  clear hL7
  go_wp2_with (refine ldB rfl _ _ rfl k07 rfl Tryz.underlying44 rfl img_size ?_)
  obtain ⟨RC, hRC⟩ : ∃ z, (c - a) * C = z := ⟨_, rfl⟩
  go_loopw [9] (fun yv wr => ∃ (j : Nat) (v : Value), j ≤ D ∧ yv = .int .i64 (b + j) ∧ wr.ownsRow (G + 1) 5 1 v (cropL ⟨W, H, C, px⟩ a b c j).length ((cropL ⟨W, H, C, px⟩ a b c j).map (Value.int .u8)) ∧ (cropL ⟨W, H, C, px⟩ a b c j).length = j * RC.toNat ∧
      Bk wr G 44 #[.int .i64 (c - a), .int .i64 (d - b), .int .i64 C, v] ∧ Bk wr w.heap.size 44 #[.int .i64 W, .int .i64 H, .int .i64 C, .slice A px.length cp] ∧ Bk wr (w.heap.size + 1) 59 (rc_rectA a b c d) ∧ Bk wr (w.heap.size + 1 + 1) 44 #[.int .i64 0, .int .i64 0, .int .i64 0, .slice none 0 0] ∧ Below w.heap.size w wr) (fun yv _ => (d - intOf yv).toNat)
  case atStart => exact ⟨0, _, by omega, by go_num, hown0, by simp [cropL], hK7, k07, k17, kR7, hb7⟩
  case round =>
    clear hown0 hK7 k07 k17 kR7 hb7 t0 t1 t2 t3 hG7
    obtain ⟨j, v, hj, rfl, hown, hlen, kG, k0, k1, kR, hbr⟩ := hrel
    obtain ⟨t0, t1, t2, t3⟩ := k1.cell4
    obtain ⟨s0, s1, s2, s3⟩ := k0.cell4
    obtain ⟨u0, u1, u2, u3⟩ := kG.cell4
    have hGz := kG.lt
    by_cases hlt : j < D
    · have hy : 0 ≤ b + j ∧ b + j < H := ⟨by omega, by omega⟩
      have hP := HP.out (b + j) hy
      obtain ⟨r1, ⟨r2, r2'⟩, r3⟩ := HRB.out (b + j) hy
      rw [hRC] at r2 r2' r3
      have hlr := HRL.out j hy.2
      have hcs := HCS.out j
      rw [hRC] at hlr
      have hpw := HL.out
      obtain ⟨q, hq⟩ : ∃ q : Nat, ((b + j) * W + a) * C = (q : Int) := ⟨(((b + j) * W + a) * C).toNat, by omega⟩
      have hP0 : ((b + j) * W + a) * C + 0 = (q : Int) := by omega
      rw [hP0] at hP
      obtain ⟨rn, hrn⟩ : ∃ rn : Nat, RC = (rn : Int) := ⟨RC.toNat, by omega⟩
      have hRw : rowL ⟨W, H, C, px⟩ a b c j = (px.drop q).take rn := by
        unfold rowL
        simp only
        rw [hq, hRC, hrn]; rfl
      have hqn : q + rn ≤ px.length := by omega
      obtain ⟨b2, o2, rfl, hbb2, hcc2⟩ := hr.get 0 (by simp; omega)
      clear hbb2 hcc2
      have hr2 : Rd wr w.heap.size (some ⟨b2, o2 + q, none⟩) ((rowL ⟨W, H, C, px⟩ a b c j).map (Value.int .u8)) := by
        rw [hRw, List.map_take, List.map_drop]
        exact ((hr.below hbr).dropk q).take rn
      have hlt2 : b + (j : Int) < d := by omega
      have v1 : wrap64 (b + (j : Int) + 1) = b + j + 1 := IntWalk.wrap64_in _ ⟨by omega, by omega⟩
      have v2 : IntKind.i64.wrap ((c - a) * C) = rn := by rw [hRC, hrn]; exact IntWalk.i64_in _ ⟨by omega, by omega⟩
      have v3 : IntKind.i64.wrap ((q : Int) + rn) = ((q + rn : Nat) : Int) := by rw [IntWalk.i64_in _ ⟨by omega, by omega⟩]; omega
      have HRw := Lib.hid hRw
      have hlr2 : (rowL ⟨W, H, C, px⟩ a b c j).length = rn := by rw [hlr, hrn]; rfl
      have hlen2 : (cropL ⟨W, H, C, px⟩ a b c j).length ≤ 32768 * 131072 := by rw [hlen]; exact Nat.mul_le_mul (by omega) (by omega)
      have hcl : (cropL ⟨W, H, C, px⟩ a b c (j + 1)).length = (j + 1) * RC.toNat := by rw [hcs, List.length_append, hlen, hlr2, hrn, Nat.add_mul]; simp
      have HCL := Lib.hid hcl
      have HCS2 := Lib.hid hcs
      clear hcl hcs hlen hlr hRw HRB HRL HCS HL HCC HP hpw r1 r3 hP0 hq
      go_upto_region 12 with (go_at_call 57; (with_reducible refine (hP _).mono ?_); rintro e w2 ⟨rfl, hb2⟩)
      have kG2 := kG.nx hb2
      have k02 := k0.nx hb2
      have k12 := k1.nx hb2
      have kR2 := kR.nx hb2
      have hown2 := own_below hown hb2 (Nat.le_refl _)
      have hbr2 := hbr.trans (hb2.mono hbr.size)
      have hr3 := hr2.below' hb2 (by have := hbr.size; omega)
      have y0 := fun (n : Nat) (os : Array Obj) => cell_regrown (kG2.cell4.1) n os
      have y3 := fun (n : Nat) (os : Array Obj) => cell_regrown (kG2.cell4.2.2.2) n os
      have x2 := fun (n : Nat) (os : Array Obj) => cell_regrown (k02.cell4.2.2.1) n os
      have x3 := fun (n : Nat) (os : Array Obj) => cell_regrown (k02.cell4.2.2.2) n os
      clear kG k0 k1 kR hown hbr hr2 hb2 t0 t1 t2 t3 s0 s1 s2 s3 u0 u1 u2 u3 hP
      refine wp_region_quiet_tail 13 (by kernel_rfl) (by kernel_rfl) ?_
      simp only [List.take_succ_cons, List.take_zero, List.drop_succ_cons, List.drop_zero]
      repeat (first | go_big_quiet_step (fail) | quiet_step (fail))
      refine wpQuiet_nil ?_
      intro _ hw'
      obtain ⟨⟨d9, os⟩, hw''⟩ := hw'
      subst hw''
      have hbx := below_regrown w2 d9 os
      have kGx := kG2.nx hbx
      have k0x := k02.nx hbx
      have k1x := k12.nx hbx
      have kRx := kR2.nx hbx
      have hownx := own_below hown2 hbx (Nat.le_refl _)
      have hbrx := hbr2.trans (hbx.mono hbr2.size)
      have hrx := hr3.below' hbx (by have := hbr2.size; omega)
      clear y0 y3 x2 x3 kG2 k02 k12 kR2 hown2 hbr2 hr3 hbx
      generalize Go.Sort.grow (redrawn w2 d9) os = wx at *
      have hGx := kGx.lt
      have hq0 : q + rn - q = rn := by omega
      go_wp2_with (at_builtin; refine appR rfl _ _ _ rfl Tryz.underlying42 u8_info rfl (by decide) rfl rfl hownx hbrx (by omega) (by omega) (B' := w.heap.size) (news := (rowL ⟨W, H, C, px⟩ a b c j).map (Value.int .u8)) hrx (by rw [List.length_map, hlr2]; omega) (intsL _) (by omega) (by omega) ?_; intro v9 w9 hown9 hb9 hz9 hg9 _; have kG9 := ca_far kGx hg9 (fun b hb e => by have := own_ge hownx b hb; omega); have k09 := ca_far k0x hg9 (fun b hb e => by have := own_ge hownx b hb; omega); have k19 := ca_far k1x hg9 (fun b hb e => by have := own_ge hownx b hb; omega); have kR9 := ca_far kRx hg9 (fun b hb e => by have := own_ge hownx b hb; omega); obtain ⟨g0, g1, g2, g3⟩ := kG9.cell4; have gf := kG9.frozen 3; obtain ⟨A9, c9, rfl, _⟩ := own_form hown9)
      rw [hq0] at hown9
      have kG8 := kG9.set 3 (.slice A9 ((cropL ⟨W, H, C, px⟩ a b c j).length + rn) c9)
      simp only [List.setIfInBounds_toArray, List.set_cons_zero, List.set_cons_succ] at kG8
      have ho9 := own_far hown9 ⟨G, 3, none⟩ (.slice A9 ((cropL ⟨W, H, C, px⟩ a b c j).length + rn) c9) (fun b hb e => by have := own_ge hown9 b hb; simp at e; omega)
      have hw2 : (cropL ⟨W, H, C, px⟩ a b c j).length + rn = (cropL ⟨W, H, C, px⟩ a b c (j + 1)).length := by rw [HCS2.out, List.length_append, hlr2]
      have hw3 : (cropL ⟨W, H, C, px⟩ a b c j).map (Value.int .u8) ++ (rowL ⟨W, H, C, px⟩ a b c j).map (Value.int .u8) = (cropL ⟨W, H, C, px⟩ a b c (j + 1)).map (Value.int .u8) := by rw [HCS2.out, List.map_append]
      replace ho9 := own_cnt ho9 hw2 hw3
      clear hw2 hw3
      refine ⟨⟨j + 1, _, by omega, by go_num, ho9, HCL.out, kG8, k09.far (by simp; omega) _, k19.far (by simp; omega) _, kR9.far (by simp; omega) _, hb9.setCell (by simp; omega) _⟩, by simp [intOf]; omega⟩
    · obtain rfl : j = D := by omega
      have hge := own_ge hown
      go_wp2_with (first
        | (refine ldB rfl _ _ rfl kG rfl Tryz.underlying44 rfl img_size ?_)
        | (refine stB (ty := 44) (cells := #[.int .i64 (c - a), .int .i64 (d - b), .int .i64 C, v]) rfl _ _ rfl kR rfl rfl img_size rfl (by obtain ⟨A9, c9, rfl, _⟩ := own_form hown; simp [Value.oneCell']) ?_; intro w' hK' hg' _))
      refine bodyPost_ret (res_cell_tmp rfl hK' rfl Tryz.underlying44 rfl img_size) rfl ?_
      have hD3 : (d - b).toNat = j := by rw [HD.out]; rfl
      rw [hD3]
      exact ⟨v, rfl, own_base (own_gbc hown hg' (fun b hb e => by have := hge b hb; injection e with e; omega)) (by omega), below_of_gb hbr hg' (by omega) hbr.size⟩
end Go.Proofs.YtahiaeaobbofbaaGreat
end
