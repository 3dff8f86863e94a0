/- Several texts in one: PlanHolds: linear's look, of a spy. (Printed by wip/tools/genph5.py.) PlanHolds: linear.By, of a spy. PlanHolds: what stands at a place, of a spy. (Printed by wip/tools/genph7.py.) PlanHolds: a Sampler of a spy. PlanHolds: the law's walk where a spy is asked. -/
import Derived.Test.YtibmhabipghjlaaGreatPlanHoldsZz12
import Derived.Test.YtibmhabipghjlaaGreatPlanHoldsZz13
import Derived.Deep.RegionHeld3
import Derived.BigRegion
import Derived.RegionTactic
import Derived.Deep.RegionWith
import Derived.Test.YtibmhabipghjlaaGreatPlanHoldsZz11
section
set_option linter.unusedVariables false
namespace Go.Proofs.YtibmhabipghjlaaGreat
open Go.RowKit
/-- v is a slice of one byte or more, in a block that a spy's calls leave alone. -/
def SlB (w : World) (v : Value) : Prop := ∃ A n c L, v = .slice A n c ∧ L.length = n ∧ 1 ≤ n ∧ n ≤ 4 ∧ n ≤ c ∧ ByAt w A L ∧ ∀ b ∈ L, 0 ≤ b ∧ b ≤ 255
theorem SlB.kp {w w' : World} {v : Value} (h : SlB w v) (hk : Kp w w') : SlB w' v := by
  obtain ⟨A, n, c, L, e, h1, h2, h3, h4, h5, h6⟩ := h
  exact ⟨A, n, c, L, e, h1, h2, h3, h4, h5.kp hk, h6⟩
theorem SlB.gb {w w' : World} {v : Value} {G : Nat} {t : TypeId} {cs : Array Value} (h : SlB w v) (hk : Bk w G t cs) (n1 : 5 ≠ t) (n2 : 100 ≠ t) (hg : w.grownBy w' (some G)) : SlB w' v := by
  obtain ⟨A, n, c, L, e, h1, h2, h3, h4, h5, h6⟩ := h
  exact ⟨A, n, c, L, e, h1, h2, h3, h4, h5.gb hk n1 n2 hg, h6⟩
abbrev ar0 : Array Value := #[.slice none 0 0, .slice none 0 0, .slice none 0 0, .slice none 0 0, .int .i64 0, .int .i64 0, .int .i64 0, .int .i64 0]
set_option maxRecDepth 100000 in
set_option maxHeartbeats 16000000 in
theorem plook_any {w0 : World} {gs : Nat} {jb : Jb} {TT : List Rn} {m : Nat} {w : World} (h : SG w0 gs jb TT m w) (vw : Array Value) (u v : Int) (hu : -70368744177664 ≤ u ∧ u ≤ 70368744177664) (hv : -70368744177664 ≤ v ∧ v ≤ 70368744177664)
    (hP : ∀ w' m' (x y : Int), SG w0 gs jb TT m' w' → m' ≤ m + 3 → (x = u / 65536 ∨ x = u / 65536 + 1) → (y = v / 65536 ∨ y = v / 65536 + 1) → Calls Tryz.prog 37 #[.agg vw, .int .i64 x, .int .i64 y] w' (PxS w0 gs jb TT m' w')) :
    Calls Tryz.prog 86 #[.func (.func 37) #[.agg vw] #[], .int .i64 u, .int .i64 v] w fun e w' => ∃ (S : Nat → Value) (p : Nat → Int), e = .returned (.agg (lkA S p 4)) ∧ (∀ j, 0 ≤ p j ∧ p j ≤ 4294967296) ∧ (∀ j, j < 4 → SlB w' (S j)) ∧ SG w0 gs jb TT (m + 4) w' ∧ Kp w w' := by
  have hS1 := fun w' => wsplit_any u w' (by omega) (by omega)
  have hS2 := fun w' => wsplit_any v w' (by omega) (by omega)
  have hf : 0 ≤ u % 65536 ∧ u % 65536 ≤ 65535 := by omega
  have hg : 0 ≤ v % 65536 ∧ v % 65536 ≤ 65535 := by omega
  have hi : -1073741824 ≤ u / 65536 ∧ u / 65536 ≤ 1073741824 := by omega
  have hj : -1073741824 ≤ v / 65536 ∧ v / 65536 ≤ 1073741824 := by omega
  have hW := w4_bd hf hg
  have hA1 := fun w' => wlin_any (u % 65536) w' (by omega) (by omega)
  have hA2 := fun w' => wlin_any (v % 65536) w' (by omega) (by omega)
  have HW : Hid (∀ j, w4 (u % 65536) (v % 65536) j = (if j % 2 = 0 then 65536 - u % 65536 else u % 65536) * (if j / 2 = 0 then 65536 - v % 65536 else v % 65536)) := fun j => rfl
  generalize u % 65536 = f at *
  generalize v % 65536 = g at *
  generalize u / 65536 = i at *
  generalize v / 65536 = q at *
  generalize w4 f g = p at *
  obtain ⟨x0, hx0⟩ : ∃ x, 65536 - f = x := ⟨_, rfl⟩
  obtain ⟨y0, hy0⟩ : ∃ x, 65536 - g = x := ⟨_, rfl⟩
  rw [hx0] at hA1 HW
  rw [hy0] at hA2 HW
  have HP0 := Lib.hid (HW.out 0)
  have HP1 := Lib.hid (HW.out 1)
  have HP2 := Lib.hid (HW.out 2)
  have HP3 := Lib.hid (HW.out 3)
  have hJ0 := fun w' (hs : SG w0 gs jb TT (m + 0) w') => hP w' (m + 0) i q hs (by omega) (.inl rfl) (.inl rfl)
  have hJ1 := fun w' (hs : SG w0 gs jb TT (m + 1) w') => hP w' (m + 1) (i + 1) q hs (by omega) (.inr rfl) (.inl rfl)
  have hJ2 := fun w' (hs : SG w0 gs jb TT (m + 2) w') => hP w' (m + 2) i (q + 1) hs (by omega) (.inl rfl) (.inr rfl)
  have hJ3 := fun w' (hs : SG w0 gs jb TT (m + 3) w') => hP w' (m + 3) (i + 1) (q + 1) hs (by omega) (.inr rfl) (.inr rfl)
  have v1 : wrap64 i = i := IntWalk.wrap64_in _ ⟨by omega, by omega⟩
  have v2 : wrap64 (i + 1) = i + 1 := IntWalk.wrap64_in _ ⟨by omega, by omega⟩
  have v3 : wrap64 q = q := IntWalk.wrap64_in _ ⟨by omega, by omega⟩
  have v4 : wrap64 (q + 1) = q + 1 := IntWalk.wrap64_in _ ⟨by omega, by omega⟩
  have HWB := Lib.hid hW
  have hL := (Lie.start w).alloc ar0 148
  have hzs := h.sz
  clear hu hv hf hg hi hj hP HW hx0 hy0 hW
  go_enter Tryz.func86, Tryz.ntmps86
  go_wp2_with (first
    | (go_at_call 88; (with_reducible refine (hS1 _).mono ?_); rintro e w1 ⟨rfl, rfl⟩)
    | (go_at_call 88; (with_reducible refine (hS2 _).mono ?_); rintro e w1 ⟨rfl, rfl⟩)
    | (go_at_call 116; (with_reducible refine (hA1 _).mono ?_); rintro e w1 ⟨rfl, hb1⟩; have hL1 := (hL.nx hb1).alloc #[.int .i64 x0, .int .i64 f] 50)
    | (go_at_call 116; (with_reducible refine (hA2 _).mono ?_); rintro e w2 ⟨rfl, hb2⟩; have hL2 := ((hL1.nx hb2).alloc #[.int .i64 y0, .int .i64 g] 50).alloc ar0 148))
  clear hS1 hS2 hA1 hA2 hL
  have hsz1 := hL1.k 0 (by simp)
  have hlt1 := hsz1.lt
  have hge1 := hb1.size
  have hge2 := hb2.size
  simp only [World.size_alloc] at hL2 hge1 hge2 hlt1
  clear hsz1 hb1 hb2 hL1
  generalize (w2.alloc (.cells #[.int .i64 y0, .int .i64 g] 50)).alloc (.cells ar0 148) = w5 at *
  obtain ⟨g11, hg11⟩ : ∃ g11, w1.heap.size = g11 := ⟨_, rfl⟩
  obtain ⟨g13, hg13⟩ : ∃ g13, w2.heap.size = g13 := ⟨_, rfl⟩
  obtain ⟨g15, hg15⟩ : ∃ g15, g13 + 1 = g15 := ⟨_, rfl⟩
  rw [hg11, hg13, hg15] at hL2
  rw [hg11, hg13] at hge2
  rw [hg11] at hge1
  simp only [hg11, hg13, hg15]
  have n1 : w.heap.size < g11 := by omega
  have n2 : g11 < g13 := by omega
  have n3 : g13 < g15 := by omega
  have hzg : w0.heap.size ≤ g15 := by omega
  clear hg11 hg13 hg15 hge1 hge2 hlt1
  have k150 : Bk w5 g15 148 ar0 := hL2.k 0 (by simp)
  have k130 : Bk w5 g13 50 #[.int .i64 y0, .int .i64 g] := hL2.k 1 (by simp)
  have k110 : Bk w5 g11 50 #[.int .i64 x0, .int .i64 f] := hL2.k 2 (by simp)
  have k000 : Bk w5 w.heap.size 148 ar0 := hL2.k 3 (by simp)
  have hs5 := h.nx hL2.bel
  have hk5 := Kp.of_below hL2.bel
  clear hL2 h
  go_loopw [37] (fun iv wr => ∃ (k : Nat) (S : Nat → Value), k ≤ 4 ∧ iv = .int .i64 k ∧ (∀ j, j < k → SlB wr (S j)) ∧ Bk wr g15 148 (lkA S p k) ∧ Bk wr g13 50 #[.int .i64 y0, .int .i64 g] ∧ Bk wr g11 50 #[.int .i64 x0, .int .i64 f] ∧ Bk wr w.heap.size 148 ar0 ∧ SG w0 gs jb TT (m + k) wr ∧ Kp w wr) (fun iv _ => 4 - (intOf iv).toNat)
  case atStart => exact ⟨0, fun _ => .slice none 0 0, by omega, rfl, fun j hj => absurd hj (by omega), by rw [lk0]; exact k150, k130, k110, k000, hs5, hk5⟩
  case round =>
    clear k150 k130 k110 k000 hs5 hk5
    obtain ⟨k, S, hk, rfl, hSl, k15, k13, k11, k00, hsg, hkp⟩ := hrel
    rcases (show k = 0 ∨ k = 1 ∨ k = 2 ∨ k = 3 ∨ k = 4 by omega) with rfl | rfl | rfl | rfl | rfl
    · have hp := HP0.out
      have hpb := HWB.out 0
      have vp : wrap64 (x0 * y0) = p 0 := by
        have e : p 0 = x0 * y0 := hp
        rw [← e]; exact IntWalk.wrap64_in _ ⟨by omega, by omega⟩
      have hJ := hJ0 _ hsg
      clear hp hpb hJ0 hJ1 hJ2 hJ3
      go_upto_region 10 with (go_at_call 37; (with_reducible refine hJ.mono ?_); rintro e w6 ⟨A6, n6, c6, L6, rfl, hL6, h61, h64, h6c, hby6, hbb6, hs6, hk6⟩; have k156 := hk6.keep _ _ _ k15 (by decide) (by decide); have e156 := k156; rw [lk0] at e156; obtain ⟨d0, d1, d2, d3, d4, d5, d6, d7⟩ := e156.cell8; have f0 := e156.frozen 0)
      have hgr := gb_setCell (World.grownBy.refl w6 (some g15)) (p := ⟨g15, 0, none⟩) (.inl rfl) (.slice A6 n6 c6)
      have k7 := k156.set 0 (.slice A6 n6 c6)
      have k137 := (hk6.keep _ _ _ k13 (by decide) (by decide)).grown hgr (fun e => by injection e with e; omega)
      have k117 := (hk6.keep _ _ _ k11 (by decide) (by decide)).grown hgr (fun e => by injection e with e; omega)
      have k007 := (hk6.keep _ _ _ k00 (by decide) (by decide)).grown hgr (fun e => by injection e with e; omega)
      have hs7 := hs6.gb k156 (by decide) (by decide) hgr hzg
      have hk7 := (hkp.trans hk6).gb hgr (by omega)
      have hS7 : ∀ j, j < 0 + 1 → SlB (w6.setCell ⟨g15, 0, none⟩ (.slice A6 n6 c6)) (if j = 0 then .slice A6 n6 c6 else S j) := fun j hj => by
        by_cases e : j = 0
        · rw [if_pos e]
          exact SlB.gb ⟨A6, n6, c6, L6, rfl, hL6, h61, h64, h6c, hby6, hbb6⟩ k156 (by decide) (by decide) hgr
        · rw [if_neg e]
          exact ((hSl j (by omega)).kp hk6).gb k156 (by decide) (by decide) hgr
      clear hs6 hk6 hby6 hbb6 hSl k15 k13 k11 k00 hsg hkp k156 e156 d0 d1 d2 d3 d4 d5 d6 d7 f0 hgr hJ
      generalize w6.setCell ⟨g15, 0, none⟩ (.slice A6 n6 c6) = w7 at *
      obtain ⟨a0, a1⟩ := k117.cell2
      obtain ⟨b0, b1⟩ := k137.cell2
      have r0 := fun (n : Nat) (os : Array Obj) => cell_regrown a0 n os
      have r1 := fun (n : Nat) (os : Array Obj) => cell_regrown a1 n os
      have r2 := fun (n : Nat) (os : Array Obj) => cell_regrown b0 n os
      have r3 := fun (n : Nat) (os : Array Obj) => cell_regrown b1 n os
      clear a0 a1 b0 b1
      refine wp_region_quiet_tail 12 (by kernel_rfl) (by kernel_rfl) ?_
      simp only [List.take_succ_cons, List.take_zero, List.drop_succ_cons, List.drop_zero]
      repeat (first
        | go_big_quiet_step (fail)
        | quiet_step (fail))
      refine wpQuiet_nil ?_
      intro _ hw'
      obtain ⟨⟨d, os⟩, hw''⟩ := hw'
      subst hw''
      have hbx := below_regrown w7 d os
      generalize Go.Sort.grow (redrawn w7 d) os = wx at *
      have kx := k7.nx hbx
      have ex := kx
      rw [lk0] at ex
      simp only [List.setIfInBounds_toArray, List.set_cons_zero] at ex
      obtain ⟨d0, d1, d2, d3, d4, d5, d6, d7⟩ := ex.cell8
      have f0 := ex.frozen (4 + 0)
      clear r0 r1 r2 r3
      go_wp2_with fail
      have k8 := kx.set (4 + 0) (.int .i64 (p 0))
      rw [lkA_up _ (by omega)] at k8
      have hgr := gb_setCell (World.grownBy.refl wx (some g15)) (p := ⟨g15, 4 + 0, none⟩) (.inl rfl) (.int .i64 (p 0))
      exact ⟨⟨0 + 1, fun j => if j = 0 then .slice A6 n6 c6 else S j, by omega, by go_num, fun j hj => ((hS7 j hj).kp (Kp.of_below hbx)).gb kx (by decide) (by decide) hgr, k8, (k137.nx hbx).grown hgr (fun e => by injection e with e; omega), (k117.nx hbx).grown hgr (fun e => by injection e with e; omega), (k007.nx hbx).grown hgr (fun e => by injection e with e; omega), (hs7.nx hbx).gb kx (by decide) (by decide) hgr hzg, (hk7.bel hbx).gb hgr (by omega)⟩, by simp [intOf]⟩
    · have hp := HP1.out
      have hpb := HWB.out 1
      have vp : wrap64 (f * y0) = p 1 := by
        have e : p 1 = f * y0 := hp
        rw [← e]; exact IntWalk.wrap64_in _ ⟨by omega, by omega⟩
      have hJ := hJ1 _ hsg
      clear hp hpb hJ0 hJ1 hJ2 hJ3
      go_upto_region 10 with (go_at_call 37; (with_reducible refine hJ.mono ?_); rintro e w6 ⟨A6, n6, c6, L6, rfl, hL6, h61, h64, h6c, hby6, hbb6, hs6, hk6⟩; have k156 := hk6.keep _ _ _ k15 (by decide) (by decide); have e156 := k156; rw [lk1] at e156; obtain ⟨d0, d1, d2, d3, d4, d5, d6, d7⟩ := e156.cell8; have f0 := e156.frozen 1)
      have hgr := gb_setCell (World.grownBy.refl w6 (some g15)) (p := ⟨g15, 1, none⟩) (.inl rfl) (.slice A6 n6 c6)
      have k7 := k156.set 1 (.slice A6 n6 c6)
      have k137 := (hk6.keep _ _ _ k13 (by decide) (by decide)).grown hgr (fun e => by injection e with e; omega)
      have k117 := (hk6.keep _ _ _ k11 (by decide) (by decide)).grown hgr (fun e => by injection e with e; omega)
      have k007 := (hk6.keep _ _ _ k00 (by decide) (by decide)).grown hgr (fun e => by injection e with e; omega)
      have hs7 := hs6.gb k156 (by decide) (by decide) hgr hzg
      have hk7 := (hkp.trans hk6).gb hgr (by omega)
      have hS7 : ∀ j, j < 1 + 1 → SlB (w6.setCell ⟨g15, 1, none⟩ (.slice A6 n6 c6)) (if j = 1 then .slice A6 n6 c6 else S j) := fun j hj => by
        by_cases e : j = 1
        · rw [if_pos e]
          exact SlB.gb ⟨A6, n6, c6, L6, rfl, hL6, h61, h64, h6c, hby6, hbb6⟩ k156 (by decide) (by decide) hgr
        · rw [if_neg e]
          exact ((hSl j (by omega)).kp hk6).gb k156 (by decide) (by decide) hgr
      clear hs6 hk6 hby6 hbb6 hSl k15 k13 k11 k00 hsg hkp k156 e156 d0 d1 d2 d3 d4 d5 d6 d7 f0 hgr hJ
      generalize w6.setCell ⟨g15, 1, none⟩ (.slice A6 n6 c6) = w7 at *
      obtain ⟨a0, a1⟩ := k117.cell2
      obtain ⟨b0, b1⟩ := k137.cell2
      have r0 := fun (n : Nat) (os : Array Obj) => cell_regrown a0 n os
      have r1 := fun (n : Nat) (os : Array Obj) => cell_regrown a1 n os
      have r2 := fun (n : Nat) (os : Array Obj) => cell_regrown b0 n os
      have r3 := fun (n : Nat) (os : Array Obj) => cell_regrown b1 n os
      clear a0 a1 b0 b1
      refine wp_region_quiet_tail 12 (by kernel_rfl) (by kernel_rfl) ?_
      simp only [List.take_succ_cons, List.take_zero, List.drop_succ_cons, List.drop_zero]
      repeat (first
        | go_big_quiet_step (fail)
        | quiet_step (fail))
      refine wpQuiet_nil ?_
      intro _ hw'
      obtain ⟨⟨d, os⟩, hw''⟩ := hw'
      subst hw''
      have hbx := below_regrown w7 d os
      generalize Go.Sort.grow (redrawn w7 d) os = wx at *
      have kx := k7.nx hbx
      have ex := kx
      rw [lk1] at ex
      simp only [List.setIfInBounds_toArray, List.set_cons_zero, List.set_cons_succ] at ex
      obtain ⟨d0, d1, d2, d3, d4, d5, d6, d7⟩ := ex.cell8
      have f0 := ex.frozen (4 + 1)
      clear r0 r1 r2 r3
      go_wp2_with fail
      have k8 := kx.set (4 + 1) (.int .i64 (p 1))
      rw [lkA_up _ (by omega)] at k8
      have hgr := gb_setCell (World.grownBy.refl wx (some g15)) (p := ⟨g15, 4 + 1, none⟩) (.inl rfl) (.int .i64 (p 1))
      exact ⟨⟨1 + 1, fun j => if j = 1 then .slice A6 n6 c6 else S j, by omega, by go_num, fun j hj => ((hS7 j hj).kp (Kp.of_below hbx)).gb kx (by decide) (by decide) hgr, k8, (k137.nx hbx).grown hgr (fun e => by injection e with e; omega), (k117.nx hbx).grown hgr (fun e => by injection e with e; omega), (k007.nx hbx).grown hgr (fun e => by injection e with e; omega), (hs7.nx hbx).gb kx (by decide) (by decide) hgr hzg, (hk7.bel hbx).gb hgr (by omega)⟩, by simp [intOf]⟩
    · have hp := HP2.out
      have hpb := HWB.out 2
      have vp : wrap64 (x0 * g) = p 2 := by
        have e : p 2 = x0 * g := hp
        rw [← e]; exact IntWalk.wrap64_in _ ⟨by omega, by omega⟩
      have hJ := hJ2 _ hsg
      clear hp hpb hJ0 hJ1 hJ2 hJ3
      go_upto_region 10 with (go_at_call 37; (with_reducible refine hJ.mono ?_); rintro e w6 ⟨A6, n6, c6, L6, rfl, hL6, h61, h64, h6c, hby6, hbb6, hs6, hk6⟩; have k156 := hk6.keep _ _ _ k15 (by decide) (by decide); have e156 := k156; rw [lk2] at e156; obtain ⟨d0, d1, d2, d3, d4, d5, d6, d7⟩ := e156.cell8; have f0 := e156.frozen 2)
      have hgr := gb_setCell (World.grownBy.refl w6 (some g15)) (p := ⟨g15, 2, none⟩) (.inl rfl) (.slice A6 n6 c6)
      have k7 := k156.set 2 (.slice A6 n6 c6)
      have k137 := (hk6.keep _ _ _ k13 (by decide) (by decide)).grown hgr (fun e => by injection e with e; omega)
      have k117 := (hk6.keep _ _ _ k11 (by decide) (by decide)).grown hgr (fun e => by injection e with e; omega)
      have k007 := (hk6.keep _ _ _ k00 (by decide) (by decide)).grown hgr (fun e => by injection e with e; omega)
      have hs7 := hs6.gb k156 (by decide) (by decide) hgr hzg
      have hk7 := (hkp.trans hk6).gb hgr (by omega)
      have hS7 : ∀ j, j < 2 + 1 → SlB (w6.setCell ⟨g15, 2, none⟩ (.slice A6 n6 c6)) (if j = 2 then .slice A6 n6 c6 else S j) := fun j hj => by
        by_cases e : j = 2
        · rw [if_pos e]
          exact SlB.gb ⟨A6, n6, c6, L6, rfl, hL6, h61, h64, h6c, hby6, hbb6⟩ k156 (by decide) (by decide) hgr
        · rw [if_neg e]
          exact ((hSl j (by omega)).kp hk6).gb k156 (by decide) (by decide) hgr
      clear hs6 hk6 hby6 hbb6 hSl k15 k13 k11 k00 hsg hkp k156 e156 d0 d1 d2 d3 d4 d5 d6 d7 f0 hgr hJ
      generalize w6.setCell ⟨g15, 2, none⟩ (.slice A6 n6 c6) = w7 at *
      obtain ⟨a0, a1⟩ := k117.cell2
      obtain ⟨b0, b1⟩ := k137.cell2
      have r0 := fun (n : Nat) (os : Array Obj) => cell_regrown a0 n os
      have r1 := fun (n : Nat) (os : Array Obj) => cell_regrown a1 n os
      have r2 := fun (n : Nat) (os : Array Obj) => cell_regrown b0 n os
      have r3 := fun (n : Nat) (os : Array Obj) => cell_regrown b1 n os
      clear a0 a1 b0 b1
      refine wp_region_quiet_tail 12 (by kernel_rfl) (by kernel_rfl) ?_
      simp only [List.take_succ_cons, List.take_zero, List.drop_succ_cons, List.drop_zero]
      repeat (first
        | go_big_quiet_step (fail)
        | quiet_step (fail))
      refine wpQuiet_nil ?_
      intro _ hw'
      obtain ⟨⟨d, os⟩, hw''⟩ := hw'
      subst hw''
      have hbx := below_regrown w7 d os
      generalize Go.Sort.grow (redrawn w7 d) os = wx at *
      have kx := k7.nx hbx
      have ex := kx
      rw [lk2] at ex
      simp only [List.setIfInBounds_toArray, List.set_cons_zero, List.set_cons_succ] at ex
      obtain ⟨d0, d1, d2, d3, d4, d5, d6, d7⟩ := ex.cell8
      have f0 := ex.frozen (4 + 2)
      clear r0 r1 r2 r3
      go_wp2_with fail
      have k8 := kx.set (4 + 2) (.int .i64 (p 2))
      rw [lkA_up _ (by omega)] at k8
      have hgr := gb_setCell (World.grownBy.refl wx (some g15)) (p := ⟨g15, 4 + 2, none⟩) (.inl rfl) (.int .i64 (p 2))
      exact ⟨⟨2 + 1, fun j => if j = 2 then .slice A6 n6 c6 else S j, by omega, by go_num, fun j hj => ((hS7 j hj).kp (Kp.of_below hbx)).gb kx (by decide) (by decide) hgr, k8, (k137.nx hbx).grown hgr (fun e => by injection e with e; omega), (k117.nx hbx).grown hgr (fun e => by injection e with e; omega), (k007.nx hbx).grown hgr (fun e => by injection e with e; omega), (hs7.nx hbx).gb kx (by decide) (by decide) hgr hzg, (hk7.bel hbx).gb hgr (by omega)⟩, by simp [intOf]⟩
    · have hp := HP3.out
      have hpb := HWB.out 3
      have vp : wrap64 (f * g) = p 3 := by
        have e : p 3 = f * g := hp
        rw [← e]; exact IntWalk.wrap64_in _ ⟨by omega, by omega⟩
      have hJ := hJ3 _ hsg
      clear hp hpb hJ0 hJ1 hJ2 hJ3
      go_upto_region 10 with (go_at_call 37; (with_reducible refine hJ.mono ?_); rintro e w6 ⟨A6, n6, c6, L6, rfl, hL6, h61, h64, h6c, hby6, hbb6, hs6, hk6⟩; have k156 := hk6.keep _ _ _ k15 (by decide) (by decide); have e156 := k156; rw [lk3] at e156; obtain ⟨d0, d1, d2, d3, d4, d5, d6, d7⟩ := e156.cell8; have f0 := e156.frozen 3)
      have hgr := gb_setCell (World.grownBy.refl w6 (some g15)) (p := ⟨g15, 3, none⟩) (.inl rfl) (.slice A6 n6 c6)
      have k7 := k156.set 3 (.slice A6 n6 c6)
      have k137 := (hk6.keep _ _ _ k13 (by decide) (by decide)).grown hgr (fun e => by injection e with e; omega)
      have k117 := (hk6.keep _ _ _ k11 (by decide) (by decide)).grown hgr (fun e => by injection e with e; omega)
      have k007 := (hk6.keep _ _ _ k00 (by decide) (by decide)).grown hgr (fun e => by injection e with e; omega)
      have hs7 := hs6.gb k156 (by decide) (by decide) hgr hzg
      have hk7 := (hkp.trans hk6).gb hgr (by omega)
      have hS7 : ∀ j, j < 3 + 1 → SlB (w6.setCell ⟨g15, 3, none⟩ (.slice A6 n6 c6)) (if j = 3 then .slice A6 n6 c6 else S j) := fun j hj => by
        by_cases e : j = 3
        · rw [if_pos e]
          exact SlB.gb ⟨A6, n6, c6, L6, rfl, hL6, h61, h64, h6c, hby6, hbb6⟩ k156 (by decide) (by decide) hgr
        · rw [if_neg e]
          exact ((hSl j (by omega)).kp hk6).gb k156 (by decide) (by decide) hgr
      clear hs6 hk6 hby6 hbb6 hSl k15 k13 k11 k00 hsg hkp k156 e156 d0 d1 d2 d3 d4 d5 d6 d7 f0 hgr hJ
      generalize w6.setCell ⟨g15, 3, none⟩ (.slice A6 n6 c6) = w7 at *
      obtain ⟨a0, a1⟩ := k117.cell2
      obtain ⟨b0, b1⟩ := k137.cell2
      have r0 := fun (n : Nat) (os : Array Obj) => cell_regrown a0 n os
      have r1 := fun (n : Nat) (os : Array Obj) => cell_regrown a1 n os
      have r2 := fun (n : Nat) (os : Array Obj) => cell_regrown b0 n os
      have r3 := fun (n : Nat) (os : Array Obj) => cell_regrown b1 n os
      clear a0 a1 b0 b1
      refine wp_region_quiet_tail 12 (by kernel_rfl) (by kernel_rfl) ?_
      simp only [List.take_succ_cons, List.take_zero, List.drop_succ_cons, List.drop_zero]
      repeat (first
        | go_big_quiet_step (fail)
        | quiet_step (fail))
      refine wpQuiet_nil ?_
      intro _ hw'
      obtain ⟨⟨d, os⟩, hw''⟩ := hw'
      subst hw''
      have hbx := below_regrown w7 d os
      generalize Go.Sort.grow (redrawn w7 d) os = wx at *
      have kx := k7.nx hbx
      have ex := kx
      rw [lk3] at ex
      simp only [List.setIfInBounds_toArray, List.set_cons_zero, List.set_cons_succ] at ex
      obtain ⟨d0, d1, d2, d3, d4, d5, d6, d7⟩ := ex.cell8
      have f0 := ex.frozen (4 + 3)
      clear r0 r1 r2 r3
      go_wp2_with fail
      have k8 := kx.set (4 + 3) (.int .i64 (p 3))
      rw [lkA_up _ (by omega)] at k8
      have hgr := gb_setCell (World.grownBy.refl wx (some g15)) (p := ⟨g15, 4 + 3, none⟩) (.inl rfl) (.int .i64 (p 3))
      exact ⟨⟨3 + 1, fun j => if j = 3 then .slice A6 n6 c6 else S j, by omega, by go_num, fun j hj => ((hS7 j hj).kp (Kp.of_below hbx)).gb kx (by decide) (by decide) hgr, k8, (k137.nx hbx).grown hgr (fun e => by injection e with e; omega), (k117.nx hbx).grown hgr (fun e => by injection e with e; omega), (k007.nx hbx).grown hgr (fun e => by injection e with e; omega), (hs7.nx hbx).gb kx (by decide) (by decide) hgr hzg, (hk7.bel hbx).gb hgr (by omega)⟩, by simp [intOf]⟩
    · have hok : (lkA S p 4).all (·.oneCell') = true := lk_ok fun j hj => by
        obtain ⟨A, n, c, L, e, _⟩ := hSl j hj
        exact ⟨A, n, c, e⟩
      go_wp2_with (first
        | (refine ldB rfl _ _ rfl k15 rfl Tryz.underlying148 rfl (by rw [lk4]; exact ar_size) ?_)
        | (refine stB (ty := 148) (cells := lkA S p 4) rfl _ _ rfl k00 rfl rfl (by rw [lk4]; exact ar_size) (by rw [lk4]; rfl) hok ?_; intro w' hK' hg' _))
      refine bodyPost_ret (res_cell rfl hK' rfl Tryz.underlying148 rfl (by rw [lk4]; exact ar_size)) rfl ?_
      exact ⟨S, p, rfl, HWB.out, fun j hj => (hSl j hj).gb k00 (by decide) (by decide) hg', hsg.gb k00 (by decide) (by decide) hg' hzs, hkp.gb hg' (Nat.le_refl _)⟩
end Go.Proofs.YtibmhabipghjlaaGreat
end
section
set_option linter.unusedVariables false
namespace Go.Proofs.YtibmhabipghjlaaGreat
open Go.RowKit
theorem SlB.sl {w : World} {v : Value} (h : SlB w v) : ∃ px, SlP 1 0 w v px ∧ ∀ kk, 0 ≤ px.getD kk 0 ∧ px.getD kk 0 ≤ 255 := by
  obtain ⟨A, n, c, L, e, h1, h2, h3, h4, h5, h6⟩ := h
  refine ⟨L.take 1, ⟨A, n, c, L, e, h1, h5.rd.rdl, h2, h3, h4, rfl⟩, fun kk => ?_⟩
  rw [List.getD_eq_getElem?_getD]
  cases hx : (L.take 1)[kk]? with
  | none => simp
  | some b => exact h6 b (List.mem_of_mem_take (List.mem_of_getElem? hx))
theorem four_px {w : World} {S : Nat → Value} (h : ∀ j, j < 4 → SlB w (S j)) : ∃ px : Nat → List Int, (∀ j, j < 4 → SlP 1 0 w (S j) (px j)) ∧ ∀ j kk, 0 ≤ (px j).getD kk 0 ∧ (px j).getD kk 0 ≤ 255 := by
  obtain ⟨a, ha, ha'⟩ := (h 0 (by omega)).sl
  obtain ⟨b, hb, hb'⟩ := (h 1 (by omega)).sl
  obtain ⟨c, hc, hc'⟩ := (h 2 (by omega)).sl
  obtain ⟨d, hd, hd'⟩ := (h 3 (by omega)).sl
  refine ⟨fun j => match j with | 0 => a | 1 => b | 2 => c | 3 => d | _ => [], fun j hj => ?_, fun j kk => ?_⟩
  · match j, hj with
    | 0, _ => exact ha
    | 1, _ => exact hb
    | 2, _ => exact hc
    | 3, _ => exact hd
  · match j with
    | 0 => exact ha' kk
    | 1 => exact hb' kk
    | 2 => exact hc' kk
    | 3 => exact hd' kk
    | j + 4 => simp
set_option maxRecDepth 100000 in
set_option maxHeartbeats 8000000 in
theorem plinear_any {w0 : World} {gs : Nat} {jb : Jb} {TT : List Rn} {m : Nat} {w : World} (h : SG w0 gs jb TT m w) (vw : Array Value) (u v : Int) (iu : inF u = true) (iv : inF v = true)
    (hP : ∀ w' m' (x y : Int), SG w0 gs jb TT m' w' → m' ≤ m + 3 → (x = u / 65536 ∨ x = u / 65536 + 1) → (y = v / 65536 ∨ y = v / 65536 + 1) → Calls Tryz.prog 37 #[.agg vw, .int .i64 x, .int .i64 y] w' (PxS w0 gs jb TT m' w')) :
    Calls Tryz.prog 55 #[.func (.func 37) #[.agg vw] #[], .int .i64 1, .int .i64 u, .int .i64 v] w fun e w' => ∃ r, e = .returned r ∧ SG w0 gs jb TT (m + 4) w' ∧ Kp w w' := by
  have hin := fun (w' : World) => linear_in u w'
  have hin2 := fun (w' : World) => linear_in v w'
  rw [iu] at hin
  rw [iv] at hin2
  have hLk := plook_any h vw u v (inF_iff.1 iu) (inF_iff.1 iv) hP
  have hmk := fun W => run_make1 (P := Tryz.prog) Tryz.underlying59 u8_infoS rfl (1 : Int) 1 rfl (by omega) (by omega) W
  have hC1 : ¬ ((1 : Int) < 1) := by omega
  have hq := eql_getS (.func 37) #[.agg vw] #[]
  clear hP iu iv h
  go_enter Tryz.func55, Tryz.ntmps55
  go_wp2_with (first
    | (go_at_call 85; (with_reducible refine (hin _).mono ?_); rintro e w1 ⟨rfl, rfl⟩)
    | (go_at_call 85; (with_reducible refine (hin2 _).mono ?_); rintro e w1 ⟨rfl, rfl⟩)
    | (go_at_call 86; (with_reducible refine hLk.mono ?_); rintro e w3 ⟨S, p, rfl, hp, hS, hs3, hk3⟩))
  clear hin hin2 hLk hmk hq
  have hK0 := Bk.new w3 5 #[.int .u8 0]
  have hb4 := (Below.refl w3.heap.size w3).alloc (Nat.le_refl _) (.cells #[.int .u8 0] 5)
  go_loopw [37] (fun iv wr => ∃ k : Nat, k ≤ 1 ∧ iv = .int .i64 k ∧ (∃ b : Int, Bk wr w3.heap.size 5 #[.int .u8 b]) ∧ Below w3.heap.size w3 wr) (fun iv _ => 1 - (intOf iv).toNat)
  case atStart => exact ⟨0, by omega, rfl, ⟨0, hK0⟩, hb4⟩
  case round =>
    clear hK0 hb4
    obtain ⟨k, hk, rfl, ⟨b, hKr⟩, hbr⟩ := hrel
    rcases (show k = 0 ∨ k = 1 by omega) with rfl | rfl
    · obtain ⟨px, hpx, hbb⟩ := four_px (fun j hj => (hS j hj).kp (Kp.of_below hbr))
      have hCh := lchan_any S p 1 0 px wr hpx (by omega) hp (fun j => hbb j 0)
      generalize byteZ (dotK [p 0, p 1, p 2, p 3] [(px 0).getD 0 0, (px 1).getD 0 0, (px 2).getD 0 0, (px 3).getD 0 0] 4) 4294967296 = bv at *
      go_wp2_with (go_at_call 87; refine hCh.mono ?_; rintro e w6 ⟨rfl, hb6⟩; have k6 := hKr.nx hb6; have d0 := k6.cell1; have f0 := k6.frozen 0)
      exact ⟨⟨1, by omega, by go_num, ⟨_, k6.set1 _⟩, (hbr.trans (hb6.mono hbr.size)).setCell (Nat.le_refl _) _⟩, by simp [intOf]⟩
    · go_wp2_with fail
      go_returns
      exact ⟨_, rfl, hs3.nx hbr, hk3.bel hbr⟩
end Go.Proofs.YtibmhabipghjlaaGreat
end
section
set_option linter.unusedVariables false
namespace Go.Proofs.YtibmhabipghjlaaGreat
open Go.RowKit
theorem far_any (u : Int) (w : World) : Calls Tryz.prog 36 #[.int .i64 u] w fun e w' => e = .returned (.bool (!inF u)) ∧ w = w' := by
  by_cases h1 : u < -70368744177664
  · have HF : Hid ((!inF u) = true) := by show _ = _; unfold inF; simp; omega
    go_enter Tryz.func36, Tryz.ntmps36
    go_wp2
    go_ret
    exact ⟨by rw [HF.out]; rfl, rfl⟩
  · by_cases h2 : 70368744177664 < u
    · have HF : Hid ((!inF u) = true) := by show _ = _; unfold inF; simp; omega
      go_enter Tryz.func36, Tryz.ntmps36
      go_wp2
      go_ret
      exact ⟨by rw [HF.out]; rfl, rfl⟩
    · have HF : Hid ((!inF u) = false) := by show _ = _; unfold inF; simp; omega
      go_enter Tryz.func36, Tryz.ntmps36
      go_wp2
      go_ret
      exact ⟨by rw [HF.out]; rfl, rfl⟩
theorem eql_spy (v : Value) (w : World) : (binOp .eql 87 (.iface 53 v) .nilIface).run Tryz.prog w = .ok (.bool false) w := by
  first | kernel_rfl | rfl
/-- A Sampler's cells, of a spy. -/
abbrev samS (g : Nat) (nm fb fr : Value) (nn : Int) (sup : Bool) (mo c0 c1 c2 c3 : Int) : Array Value := #[.iface 53 (.pointer (some ⟨g, 0, none⟩)), nm, fb, fr, .int .i64 nn, .bool sup, .int .i64 mo, .int .u8 c0, .int .u8 c1, .int .u8 c2, .int .u8 c3]
theorem keepSp {w5 w' : World} {g : Nat} {a b : Value} (e0 : w5.cell? ⟨g, 0, none⟩ = some a) (e2 : w5.cell? ⟨g, 2, none⟩ = some b) (hl : g < w5.heap.size) (hb : Below w5.heap.size w5 w') : w'.cell? ⟨g, 0, none⟩ = some a ∧ w'.cell? ⟨g, 2, none⟩ = some b ∧ Kp w5 w' :=
  ⟨(hb.cell hl).trans e0, (hb.cell hl).trans e2, Kp.of_below hb⟩
set_option maxRecDepth 100000 in
set_option maxHeartbeats 16000000 in
theorem pat_near {w0 : World} {gs : Nat} {jb : Jb} {TT : List Rn} {m : Nat} {w : World} (h : SG w0 gs jb TT m w) (hj : JOk jb) (k : Nat) (hk : k ≤ 15) {gS : Nat} (nm fr : Value) (nn : Int) (sup : Bool) (c0 c1 c2 c3 u v : Int) (hK : Bk w gS 96 (samS gs nm (.func (.func 53) #[] #[]) fr nn sup jb.mo c0 c1 c2 c3)) (iu : inF u = true) (iv : inF v = true) (M : Nat)
    (hBy : ∀ w', SG w0 gs jb TT m w' → Calls Tryz.prog 53 #[.func (.func 37) #[.agg (vwS gs k (szI k jb.W) (szI k jb.H) jb.mo c0 c1 c2 c3)] #[], .int .i64 1, .int .i64 (lvTo u k), .int .i64 (lvTo v k)] w' fun e w'' => ∃ r, e = .returned r ∧ SG w0 gs jb TT M w'' ∧ Kp w' w'') :
    Calls Tryz.prog 18 #[.pointer (some ⟨gS, 0, none⟩), .int .i64 k, .int .i64 u, .int .i64 v] w fun e w' => ∃ r, e = .returned (.tuple #[r, .int .i64 0]) ∧ SG w0 gs jb TT M w' ∧ Kp w w' := by
  obtain ⟨hW, hH, hTW, hTH⟩ := grC_zero.1 hj.g
  have hWq := szI_bd k hW
  have hq := fun w => eql_spy (.pointer (some ⟨gs, 0, none⟩)) w
  have hM := fun (v : Value) (w : World) => sp_size v w
  have hM2 := fun (v : Value) (w : World) => sp_channels v w
  obtain ⟨S0, hSpy, hS0, hS1⟩ := id h
  have hS := spsize_any hSpy hj k hk
  have hCh := fun w' => spchan_any (.pointer (some ⟨gs, 0, none⟩)) w'
  have hw0 : (szI k jb.W == 0) = false := by simp; omega
  have hU := fun w' => far_any u w'
  have hV := fun w' => far_any v w'
  rw [iu] at hU
  rw [iv] at hV
  have bu := inF_iff.1 iu
  have bv := inF_iff.1 iv
  have hT1 := fun w' => to_any u k w' bu.1 bu.2
  have hT2 := fun w' => to_any v k w' bv.1 bv.2
  clear hW hH hTW hTH hWq hSpy hS0 hS1 S0 iu iv bu bv hj hk
  generalize szI k jb.W = sw at *
  generalize szI k jb.H = sh at *
  generalize lvTo u k = u1 at *
  generalize lvTo v k = v1 at *
  have d0 := (hK.cell 0).trans (show _ = some (.iface 53 (.pointer (some ⟨gs, 0, none⟩))) from rfl)
  go_enter Tryz.func18, Tryz.ntmps18
  go_upto_region 6 with (first
    | (go_at_call 203; (with_reducible refine hS.mono ?_); rintro e w1 ⟨rfl, hb1⟩)
    | (go_at_call 36; (with_reducible refine (hU _).mono ?_); rintro e w2 ⟨rfl, rfl⟩)
    | (go_at_call 36; (with_reducible refine (hV _).mono ?_); rintro e w2 ⟨rfl, rfl⟩))
  have hK1 := hK.nx hb1
  have hs1 := h.nx hb1
  have hk1 := Kp.of_below hb1
  have d0 := (hK1.cell 0).trans (show _ = some (.iface 53 (.pointer (some ⟨gs, 0, none⟩))) from rfl)
  have d6 := (hK1.cell 6).trans (show _ = some (.int .i64 jb.mo) from rfl)
  have d7 := (hK1.cell 7).trans (show _ = some (.int .u8 c0) from rfl)
  have d8 := (hK1.cell 8).trans (show _ = some (.int .u8 c1) from rfl)
  have d9 := (hK1.cell 9).trans (show _ = some (.int .u8 c2) from rfl)
  have d10 := (hK1.cell 10).trans (show _ = some (.int .u8 c3) from rfl)
  clear hK h hS hU hV hM hq hb1
  go_quiet (fail)
  go_wp2_with fail
  have hbq := below_drewN (Below.refl w1.heap.size w1) nq
  have hK5 := hK1.nx hbq
  have hs5 := hs1.nx hbq
  have hk5 := hk1.bel hbq
  have hlg5 := hK5.lt
  have e0 := (hK5.cell 0).trans (show _ = some (.iface 53 (.pointer (some ⟨gs, 0, none⟩))) from rfl)
  have e2 := (hK5.cell 2).trans (show _ = some (.func (.func 53) #[] #[]) from rfl)
  clear d0 d6 d7 d8 d9 d10 hK1 hs1 hk1 hbq
  generalize w1.drewN nq = w5 at *
  have hs5' : SG w0 gs jb TT m w5.drew := hs5.nx (below_drewN (Below.refl w5.heap.size w5) 1)
  have hK5' : Bk w5.drew gS 96 (samS gs nm (.func (.func 53) #[] #[]) fr nn sup jb.mo c0 c1 c2 c3) := hK5
  have hB5 := hBy _ hs5'
  have hk5' : Kp w w5.drew := hk5.bel (below_drewN (Below.refl w5.heap.size w5) 1)
  clear d0 hs5 hk5
  go_region_held3 (fun w' => w'.cell? ⟨gS, 0, none⟩ = some (.iface 53 (.pointer (some ⟨gs, 0, none⟩))) ∧ w'.cell? ⟨gS, 2, none⟩ = some (.func (.func 53) #[] #[]))
    (first | exact ⟨e0, e2⟩ | exact ⟨e07, e27⟩)
    (first
      | (go_at_call 201; (with_reducible refine (hCh _).mono ?_); rintro e w1 ⟨rfl, rfl⟩)
      | (go_at_call 38; (with_reducible refine (hT1 _).mono ?_); rintro e w1 ⟨rfl, rfl⟩)
      | (go_at_call 38; (with_reducible refine (hT2 _).mono ?_); rintro e w1 ⟨rfl, rfl⟩)
      | (go_at_call 53; (with_reducible refine hB5.mono ?_); rintro e w7 ⟨r7, rfl, hs7, hk7⟩; have hK7 := hk7.keep _ _ _ hK5' (by decide) (by decide); have e07 := (hK7.cell 0).trans (show _ = some (.iface 53 (.pointer (some ⟨gs, 0, none⟩))) from rfl); have e27 := (hK7.cell 2).trans (show _ = some (.func (.func 53) #[] #[]) from rfl)))
  all_goals
    rename_i hHeld
    clear hHeld
    go_wp2_with fail
    go_returns
    exact ⟨_, rfl, hs7, hk5'.trans hk7⟩
set_option maxRecDepth 100000 in
set_option maxHeartbeats 16000000 in
theorem pat_linear {w0 : World} {gs : Nat} {jb : Jb} {TT : List Rn} {m : Nat} {w : World} (h : SG w0 gs jb TT m w) (hj : JOk jb) (k : Nat) (hk : k ≤ 15) {gS : Nat} (nm fr : Value) (nn : Int) (sup : Bool) (c0 c1 c2 c3 u v : Int) (hK : Bk w gS 96 (samS gs nm (.func (.func 55) #[] #[]) fr nn sup jb.mo c0 c1 c2 c3)) (iu : inF u = true) (iv : inF v = true) (M : Nat)
    (hBy : ∀ w', SG w0 gs jb TT m w' → Calls Tryz.prog 55 #[.func (.func 37) #[.agg (vwS gs k (szI k jb.W) (szI k jb.H) jb.mo c0 c1 c2 c3)] #[], .int .i64 1, .int .i64 (lvTo u k), .int .i64 (lvTo v k)] w' fun e w'' => ∃ r, e = .returned r ∧ SG w0 gs jb TT M w'' ∧ Kp w' w'') :
    Calls Tryz.prog 18 #[.pointer (some ⟨gS, 0, none⟩), .int .i64 k, .int .i64 u, .int .i64 v] w fun e w' => ∃ r, e = .returned (.tuple #[r, .int .i64 0]) ∧ SG w0 gs jb TT M w' ∧ Kp w w' := by
  obtain ⟨hW, hH, hTW, hTH⟩ := grC_zero.1 hj.g
  have hWq := szI_bd k hW
  have hq := fun w => eql_spy (.pointer (some ⟨gs, 0, none⟩)) w
  have hM := fun (v : Value) (w : World) => sp_size v w
  have hM2 := fun (v : Value) (w : World) => sp_channels v w
  obtain ⟨S0, hSpy, hS0, hS1⟩ := id h
  have hS := spsize_any hSpy hj k hk
  have hCh := fun w' => spchan_any (.pointer (some ⟨gs, 0, none⟩)) w'
  have hw0 : (szI k jb.W == 0) = false := by simp; omega
  have hU := fun w' => far_any u w'
  have hV := fun w' => far_any v w'
  rw [iu] at hU
  rw [iv] at hV
  have bu := inF_iff.1 iu
  have bv := inF_iff.1 iv
  have hT1 := fun w' => to_any u k w' bu.1 bu.2
  have hT2 := fun w' => to_any v k w' bv.1 bv.2
  clear hW hH hTW hTH hWq hSpy hS0 hS1 S0 iu iv bu bv hj hk
  generalize szI k jb.W = sw at *
  generalize szI k jb.H = sh at *
  generalize lvTo u k = u1 at *
  generalize lvTo v k = v1 at *
  have d0 := (hK.cell 0).trans (show _ = some (.iface 53 (.pointer (some ⟨gs, 0, none⟩))) from rfl)
  go_enter Tryz.func18, Tryz.ntmps18
  go_upto_region 6 with (first
    | (go_at_call 203; (with_reducible refine hS.mono ?_); rintro e w1 ⟨rfl, hb1⟩)
    | (go_at_call 36; (with_reducible refine (hU _).mono ?_); rintro e w2 ⟨rfl, rfl⟩)
    | (go_at_call 36; (with_reducible refine (hV _).mono ?_); rintro e w2 ⟨rfl, rfl⟩))
  have hK1 := hK.nx hb1
  have hs1 := h.nx hb1
  have hk1 := Kp.of_below hb1
  have d0 := (hK1.cell 0).trans (show _ = some (.iface 53 (.pointer (some ⟨gs, 0, none⟩))) from rfl)
  have d6 := (hK1.cell 6).trans (show _ = some (.int .i64 jb.mo) from rfl)
  have d7 := (hK1.cell 7).trans (show _ = some (.int .u8 c0) from rfl)
  have d8 := (hK1.cell 8).trans (show _ = some (.int .u8 c1) from rfl)
  have d9 := (hK1.cell 9).trans (show _ = some (.int .u8 c2) from rfl)
  have d10 := (hK1.cell 10).trans (show _ = some (.int .u8 c3) from rfl)
  clear hK h hS hU hV hM hq hb1
  go_quiet (fail)
  go_wp2_with fail
  have hbq := below_drewN (Below.refl w1.heap.size w1) nq
  have hK5 := hK1.nx hbq
  have hs5 := hs1.nx hbq
  have hk5 := hk1.bel hbq
  have hlg5 := hK5.lt
  have e0 := (hK5.cell 0).trans (show _ = some (.iface 53 (.pointer (some ⟨gs, 0, none⟩))) from rfl)
  have e2 := (hK5.cell 2).trans (show _ = some (.func (.func 55) #[] #[]) from rfl)
  clear d0 d6 d7 d8 d9 d10 hK1 hs1 hk1 hbq
  generalize w1.drewN nq = w5 at *
  have hs5' : SG w0 gs jb TT m w5.drew := hs5.nx (below_drewN (Below.refl w5.heap.size w5) 1)
  have hK5' : Bk w5.drew gS 96 (samS gs nm (.func (.func 55) #[] #[]) fr nn sup jb.mo c0 c1 c2 c3) := hK5
  have hB5 := hBy _ hs5'
  have hk5' : Kp w w5.drew := hk5.bel (below_drewN (Below.refl w5.heap.size w5) 1)
  clear d0 hs5 hk5
  go_region_held3 (fun w' => w'.cell? ⟨gS, 0, none⟩ = some (.iface 53 (.pointer (some ⟨gs, 0, none⟩))) ∧ w'.cell? ⟨gS, 2, none⟩ = some (.func (.func 55) #[] #[]))
    (first | exact ⟨e0, e2⟩ | exact ⟨e07, e27⟩)
    (first
      | (go_at_call 201; (with_reducible refine (hCh _).mono ?_); rintro e w1 ⟨rfl, rfl⟩)
      | (go_at_call 38; (with_reducible refine (hT1 _).mono ?_); rintro e w1 ⟨rfl, rfl⟩)
      | (go_at_call 38; (with_reducible refine (hT2 _).mono ?_); rintro e w1 ⟨rfl, rfl⟩)
      | (go_at_call 55; (with_reducible refine hB5.mono ?_); rintro e w7 ⟨r7, rfl, hs7, hk7⟩; have hK7 := hk7.keep _ _ _ hK5' (by decide) (by decide); have e07 := (hK7.cell 0).trans (show _ = some (.iface 53 (.pointer (some ⟨gs, 0, none⟩))) from rfl); have e27 := (hK7.cell 2).trans (show _ = some (.func (.func 55) #[] #[]) from rfl)))
  all_goals
    rename_i hHeld
    clear hHeld
    go_wp2_with fail
    go_returns
    exact ⟨_, rfl, hs7, hk5'.trans hk7⟩
set_option maxRecDepth 100000 in
set_option maxHeartbeats 16000000 in
theorem pat_cubic {w0 : World} {gs : Nat} {jb : Jb} {TT : List Rn} {m : Nat} {w : World} (h : SG w0 gs jb TT m w) (hj : JOk jb) (k : Nat) (hk : k ≤ 15) {gS : Nat} (nm fr : Value) (nn : Int) (sup : Bool) (c0 c1 c2 c3 u v : Int) (hK : Bk w gS 96 (samS gs nm (.func (.func 57) #[] #[]) fr nn sup jb.mo c0 c1 c2 c3)) (iu : inF u = true) (iv : inF v = true) (M : Nat)
    (hBy : ∀ w', SG w0 gs jb TT m w' → Calls Tryz.prog 57 #[.func (.func 37) #[.agg (vwS gs k (szI k jb.W) (szI k jb.H) jb.mo c0 c1 c2 c3)] #[], .int .i64 1, .int .i64 (lvTo u k), .int .i64 (lvTo v k)] w' fun e w'' => ∃ r, e = .returned r ∧ SG w0 gs jb TT M w'' ∧ Kp w' w'') :
    Calls Tryz.prog 18 #[.pointer (some ⟨gS, 0, none⟩), .int .i64 k, .int .i64 u, .int .i64 v] w fun e w' => ∃ r, e = .returned (.tuple #[r, .int .i64 0]) ∧ SG w0 gs jb TT M w' ∧ Kp w w' := by
  obtain ⟨hW, hH, hTW, hTH⟩ := grC_zero.1 hj.g
  have hWq := szI_bd k hW
  have hq := fun w => eql_spy (.pointer (some ⟨gs, 0, none⟩)) w
  have hM := fun (v : Value) (w : World) => sp_size v w
  have hM2 := fun (v : Value) (w : World) => sp_channels v w
  obtain ⟨S0, hSpy, hS0, hS1⟩ := id h
  have hS := spsize_any hSpy hj k hk
  have hCh := fun w' => spchan_any (.pointer (some ⟨gs, 0, none⟩)) w'
  have hw0 : (szI k jb.W == 0) = false := by simp; omega
  have hU := fun w' => far_any u w'
  have hV := fun w' => far_any v w'
  rw [iu] at hU
  rw [iv] at hV
  have bu := inF_iff.1 iu
  have bv := inF_iff.1 iv
  have hT1 := fun w' => to_any u k w' bu.1 bu.2
  have hT2 := fun w' => to_any v k w' bv.1 bv.2
  clear hW hH hTW hTH hWq hSpy hS0 hS1 S0 iu iv bu bv hj hk
  generalize szI k jb.W = sw at *
  generalize szI k jb.H = sh at *
  generalize lvTo u k = u1 at *
  generalize lvTo v k = v1 at *
  have d0 := (hK.cell 0).trans (show _ = some (.iface 53 (.pointer (some ⟨gs, 0, none⟩))) from rfl)
  go_enter Tryz.func18, Tryz.ntmps18
  go_upto_region 6 with (first
    | (go_at_call 203; (with_reducible refine hS.mono ?_); rintro e w1 ⟨rfl, hb1⟩)
    | (go_at_call 36; (with_reducible refine (hU _).mono ?_); rintro e w2 ⟨rfl, rfl⟩)
    | (go_at_call 36; (with_reducible refine (hV _).mono ?_); rintro e w2 ⟨rfl, rfl⟩))
  have hK1 := hK.nx hb1
  have hs1 := h.nx hb1
  have hk1 := Kp.of_below hb1
  have d0 := (hK1.cell 0).trans (show _ = some (.iface 53 (.pointer (some ⟨gs, 0, none⟩))) from rfl)
  have d6 := (hK1.cell 6).trans (show _ = some (.int .i64 jb.mo) from rfl)
  have d7 := (hK1.cell 7).trans (show _ = some (.int .u8 c0) from rfl)
  have d8 := (hK1.cell 8).trans (show _ = some (.int .u8 c1) from rfl)
  have d9 := (hK1.cell 9).trans (show _ = some (.int .u8 c2) from rfl)
  have d10 := (hK1.cell 10).trans (show _ = some (.int .u8 c3) from rfl)
  clear hK h hS hU hV hM hq hb1
  go_quiet (fail)
  go_wp2_with fail
  have hbq := below_drewN (Below.refl w1.heap.size w1) nq
  have hK5 := hK1.nx hbq
  have hs5 := hs1.nx hbq
  have hk5 := hk1.bel hbq
  have hlg5 := hK5.lt
  have e0 := (hK5.cell 0).trans (show _ = some (.iface 53 (.pointer (some ⟨gs, 0, none⟩))) from rfl)
  have e2 := (hK5.cell 2).trans (show _ = some (.func (.func 57) #[] #[]) from rfl)
  clear d0 d6 d7 d8 d9 d10 hK1 hs1 hk1 hbq
  generalize w1.drewN nq = w5 at *
  have hs5' : SG w0 gs jb TT m w5.drew := hs5.nx (below_drewN (Below.refl w5.heap.size w5) 1)
  have hK5' : Bk w5.drew gS 96 (samS gs nm (.func (.func 57) #[] #[]) fr nn sup jb.mo c0 c1 c2 c3) := hK5
  have hB5 := hBy _ hs5'
  have hk5' : Kp w w5.drew := hk5.bel (below_drewN (Below.refl w5.heap.size w5) 1)
  clear d0 hs5 hk5
  go_region_held3 (fun w' => w'.cell? ⟨gS, 0, none⟩ = some (.iface 53 (.pointer (some ⟨gs, 0, none⟩))) ∧ w'.cell? ⟨gS, 2, none⟩ = some (.func (.func 57) #[] #[]))
    (first | exact ⟨e0, e2⟩ | exact ⟨e07, e27⟩)
    (first
      | (go_at_call 201; (with_reducible refine (hCh _).mono ?_); rintro e w1 ⟨rfl, rfl⟩)
      | (go_at_call 38; (with_reducible refine (hT1 _).mono ?_); rintro e w1 ⟨rfl, rfl⟩)
      | (go_at_call 38; (with_reducible refine (hT2 _).mono ?_); rintro e w1 ⟨rfl, rfl⟩)
      | (go_at_call 57; (with_reducible refine hB5.mono ?_); rintro e w7 ⟨r7, rfl, hs7, hk7⟩; have hK7 := hk7.keep _ _ _ hK5' (by decide) (by decide); have e07 := (hK7.cell 0).trans (show _ = some (.iface 53 (.pointer (some ⟨gs, 0, none⟩))) from rfl); have e27 := (hK7.cell 2).trans (show _ = some (.func (.func 57) #[] #[]) from rfl)))
  all_goals
    rename_i hHeld
    clear hHeld
    go_wp2_with fail
    go_returns
    exact ⟨_, rfl, hs7, hk5'.trans hk7⟩
end Go.Proofs.YtibmhabipghjlaaGreat
end
section
set_option linter.unusedVariables false
namespace Go.Proofs.YtibmhabipghjlaaGreat
open Go.RowKit
abbrev bdV (mo c0 c1 c2 c3 : Int) : Value := .agg #[.int .i64 mo, .int .u8 c0, .int .u8 c1, .int .u8 c2, .int .u8 c3]
def modeC (m : Int) : Int := if m < 0 ∨ 3 < m then 10 else 0
def kerC (k n m : Int) : Int := if k < 0 ∨ 3 < k then 10 else if k = 3 ∧ (n < 1 ∨ 8 < n) then 11 else modeC m
theorem bchk_any (m c0 c1 c2 c3 : Int) (w : World) : Calls Tryz.prog 22 #[bdV m c0 c1 c2 c3] w fun e w' => e = .returned (.int .i64 (modeC m)) ∧ Below w.heap.size w w' := by
  by_cases h : m < 0
  · have HM : Hid (modeC m = 10) := by show _ = _; unfold modeC; rw [if_pos (.inl h)]
    go_enter Tryz.func22, Tryz.ntmps22
    go_wp2
    go_returns
    exact ⟨ret_int HM.out.symm, by go_grown⟩
  · by_cases h2 : 3 < m
    · have HM : Hid (modeC m = 10) := by show _ = _; unfold modeC; rw [if_pos (.inr h2)]
      go_enter Tryz.func22, Tryz.ntmps22
      go_wp2
      go_returns
      exact ⟨ret_int HM.out.symm, by go_grown⟩
    · have HM : Hid (modeC m = 0) := by show _ = _; unfold modeC; rw [if_neg (by omega)]
      go_enter Tryz.func22, Tryz.ntmps22
      go_wp2
      go_returns
      exact ⟨ret_int HM.out.symm, by go_grown⟩
set_option maxRecDepth 100000 in
set_option maxHeartbeats 4000000 in
theorem kchk_any (k n m c0 c1 c2 c3 : Int) (w : World) : Calls Tryz.prog 34 #[.int .i64 k, .int .i64 n, bdV m c0 c1 c2 c3] w fun e w' => e = .returned (.int .i64 (kerC k n m)) ∧ Below w.heap.size w w' := by
  by_cases h : 0 ≤ k ∧ k ≤ 3
  · have hd : decide (0 ≤ k ∧ k ≤ 3) = true := decide_eq_true h
    by_cases h3 : k = 3 ∧ (n < 1 ∨ 8 < n)
    · have HM : Hid (kerC k n m = 11) := by show _ = _; unfold kerC; rw [if_neg (by omega), if_pos h3]
      have hk3 : (k == 3) = true := by simp [h3.1]
      rcases (show n < 1 ∨ (1 ≤ n ∧ 8 < n) by omega) with hn | ⟨hn, hn2⟩
      all_goals
        clear h h3
        go_enter Tryz.func34, Tryz.ntmps34
        go_wp2_with (go_at_call 40; (with_reducible refine (is_any _ _).mono ?_); rintro e w1 ⟨rfl, rfl⟩; rw [hd])
        go_returns
        exact ⟨ret_int HM.out.symm, by go_grown⟩
    · have HM : Hid (kerC k n m = modeC m) := by show _ = _; unfold kerC; rw [if_neg (by omega), if_neg h3]
      have hC := fun w => bchk_any m c0 c1 c2 c3 w
      by_cases hk : k = 3
      · have hk3 : (k == 3) = true := by simp [hk]
        have hn1 : 1 ≤ n := by omega
        have hn2 : n ≤ 8 := by omega
        clear h h3 hk
        go_enter Tryz.func34, Tryz.ntmps34
        go_wp2_with (first
          | (go_at_call 40; (with_reducible refine (is_any _ _).mono ?_); rintro e w1 ⟨rfl, rfl⟩; rw [hd])
          | (go_at_call 22; (with_reducible refine (hC _).mono ?_); rintro e w2 ⟨rfl, hb2⟩))
        go_returns
        exact ⟨ret_int HM.out.symm, ((Below.refl _ _).alloc (Nat.le_refl _) _).trans (hb2.mono (by simp))⟩
      · have hk3 : (k == 3) = false := by simpa using hk
        clear h h3 hk
        go_enter Tryz.func34, Tryz.ntmps34
        go_wp2_with (first
          | (go_at_call 40; (with_reducible refine (is_any _ _).mono ?_); rintro e w1 ⟨rfl, rfl⟩; rw [hd])
          | (go_at_call 22; (with_reducible refine (hC _).mono ?_); rintro e w2 ⟨rfl, hb2⟩))
        go_returns
        exact ⟨ret_int HM.out.symm, ((Below.refl _ _).alloc (Nat.le_refl _) _).trans (hb2.mono (by simp))⟩
  · have hd : decide (0 ≤ k ∧ k ≤ 3) = false := decide_eq_false h
    have HM : Hid (kerC k n m = 10) := by show _ = _; unfold kerC; rw [if_pos (by omega)]
    clear h
    go_enter Tryz.func34, Tryz.ntmps34
    go_wp2_with (go_at_call 40; (with_reducible refine (is_any _ _).mono ?_); rintro e w1 ⟨rfl, rfl⟩; rw [hd])
    go_returns
    exact ⟨ret_int HM.out.symm, by go_grown⟩
set_option maxRecDepth 100000 in
set_option maxHeartbeats 8000000 in
theorem snew_gen (v : Nat) (nm fb fr : Value) (k n m c0 c1 c2 c3 : Int) (w : World) (h : kerC k n m = 0) (hix : ∀ w, (Instr.index 93 (.agg kerA) (.int .i64 k)).run Tryz.prog w = .ok (.agg #[nm, fb, fr]) w) (hnm : nm.oneCell' = true) (hfb : fb.oneCell' = true) (hfr : fr.oneCell' = true) : Calls Tryz.prog 17 #[.iface 53 (.pointer (some ⟨v, 0, none⟩)), .int .i64 k, .int .i64 n, bdV m c0 c1 c2 c3] w fun e w' => ∃ g, e = .returned (.tuple #[.pointer (some ⟨g, 0, none⟩), .int .i64 0]) ∧ w.heap.size ≤ g ∧ Bk w' g 96 (samS v nm fb fr n (k == 3) m c0 c1 c2 c3) ∧ Below w.heap.size w w' := by
  have hq := fun w => eql_spy (.pointer (some ⟨v, 0, none⟩)) w
  have hK := fun w => kchk_any k n m c0 c1 c2 c3 w
  rw [h] at hK
  clear h
  have hKe := fun w => kernels_any w
  generalize (kerA : Array Value) = ka at *
  go_enter Tryz.func17, Tryz.ntmps17
  go_upto_region 6 with (go_at_call 34; (with_reducible refine (hK _).mono ?_); rintro e w2 ⟨rfl, hb2⟩)
  have kb := (Bk.new w 26 #[.int .i64 m, .int .u8 c0, .int .u8 c1, .int .u8 c2, .int .u8 c3]).nx hb2
  have hb3 := ((Below.refl w.heap.size w).alloc (Nat.le_refl _) (.cells #[.int .i64 m, .int .u8 c0, .int .u8 c1, .int .u8 c2, .int .u8 c3] 26)).trans (hb2.mono (by simp))
  obtain ⟨d0, d1, d2, d3, d4⟩ := kb.cell5
  have hb2s := hb3.size
  go_region_with (first
    | (go_at_call 35; (with_reducible refine (hKe _).mono ?_); rintro e w4 ⟨rfl, hb4⟩; obtain ⟨e0, e1, e2, e3, e4⟩ := (Bk.nx (by first | exact kb | exact kb.drew | exact kb.drewN _) hb4).cell5))
  all_goals
    go_wp2_with fail
    go_returns
    have hb5 : Below w.heap.size w w4 := by first | exact hb3.trans (hb4.mono hb2s) | exact (below_drewN hb3 1).trans (hb4.mono hb2s) | exact (below_drewN hb3 _).trans (hb4.mono hb2s)
    exact ⟨_, rfl, hb5.size, Bk.new _ _ _, hb5.alloc hb5.size _⟩
set_option maxRecDepth 100000 in
set_option maxHeartbeats 4000000 in
/-- New of a spy. -/
theorem snew_ok (v : Nat) (k n m c0 c1 c2 c3 : Int) (w : World) (h : kerC k n m = 0) : Calls Tryz.prog 17 #[.iface 53 (.pointer (some ⟨v, 0, none⟩)), .int .i64 k, .int .i64 n, bdV m c0 c1 c2 c3] w fun e w' => ∃ g nm fb fr, e = .returned (.tuple #[.pointer (some ⟨g, 0, none⟩), .int .i64 0]) ∧ w.heap.size ≤ g ∧ Bk w' g 96 (samS v nm fb fr n (k == 3) m c0 c1 c2 c3) ∧ ((k = 0 ∧ fb = .func (.func 53) #[] #[]) ∨ (k = 2 ∧ fb = .func (.func 57) #[] #[]) ∨ ((k = 1 ∨ k = 3) ∧ fb = .func (.func 55) #[] #[])) ∧ Below w.heap.size w w' := by
  have hk : k = 0 ∨ k = 1 ∨ k = 2 ∨ k = 3 := by
    unfold kerC at h
    split at h
    · cases h
    · omega
  rcases hk with rfl | rfl | rfl | rfl
  · refine (snew_gen v (.string sNear) (.func (.func 53) #[] #[]) (.func (.func 54) #[] #[]) 0 n m c0 c1 c2 c3 w h (fun w => by kernel_rfl) rfl rfl rfl).mono ?_
    rintro e w' ⟨g, he, hg, hK, hb⟩
    exact ⟨g, _, _, _, he, hg, hK, .inl ⟨rfl, rfl⟩, hb⟩
  · refine (snew_gen v (.string sLinear) (.func (.func 55) #[] #[]) (.func (.func 56) #[] #[]) 1 n m c0 c1 c2 c3 w h (fun w => by kernel_rfl) rfl rfl rfl).mono ?_
    rintro e w' ⟨g, he, hg, hK, hb⟩
    exact ⟨g, _, _, _, he, hg, hK, .inr (.inr ⟨.inl rfl, rfl⟩), hb⟩
  · refine (snew_gen v (.string sCubic) (.func (.func 57) #[] #[]) (.func (.func 58) #[] #[]) 2 n m c0 c1 c2 c3 w h (fun w => by kernel_rfl) rfl rfl rfl).mono ?_
    rintro e w' ⟨g, he, hg, hK, hb⟩
    exact ⟨g, _, _, _, he, hg, hK, .inr (.inl ⟨rfl, rfl⟩), hb⟩
  · refine (snew_gen v (.string sSuper) (.func (.func 55) #[] #[]) (.func (.func 56) #[] #[]) 3 n m c0 c1 c2 c3 w h (fun w => by kernel_rfl) rfl rfl rfl).mono ?_
    rintro e w' ⟨g, he, hg, hK, hb⟩
    exact ⟨g, _, _, _, he, hg, hK, .inr (.inr ⟨.inr rfl, rfl⟩), hb⟩
end Go.Proofs.YtibmhabipghjlaaGreat
end
section
set_option linter.unusedVariables false
namespace Go.Proofs.YtibmhabipghjlaaGreat
open Go.RowKit
attribute [local go_sem high] run_maxM run_minM
theorem tile_sz2 : (Tryz.prog.info? 46).map (·.size) = some 2 := by kernel_rfl
theorem bxhas_in (a b c d u v : Int) (w : World) (h1 : a ≤ u) (h2 : u ≤ c) (h3 : b ≤ v) (h4 : v ≤ d) : Calls Tryz.prog 15 #[.agg (bxA4 a b c d), .int .i64 u, .int .i64 v] w fun e w' => e = .returned (.bool true) ∧ Below w.heap.size w w' := by
  have hb := (Below.refl w.heap.size w).alloc (Nat.le_refl _) (.cells (bxA4 a b c d) 23)
  go_enter Tryz.func15, Tryz.ntmps15
  go_wp2_with fail
  go_returns
  exact ⟨rfl, hb⟩
set_option maxRecDepth 100000 in
set_option maxHeartbeats 8000000 in
theorem hold_main (j : Jb) (a b k : Int) (N : List Rn) (w : World) (hj : JOk j) (h1 : j.W ≤ 60) (h2 : j.H ≤ 60) (hk0 : 0 ≤ k) (hk1 : k < j.L) (hR : ∀ w', Calls Tryz.prog 6 #[.agg j.cells] w' fun e w'' => e = .returned (.int .i64 0) ∧ Below w'.heap.size w' w'')
    (hF : ∀ w', Calls Tryz.prog 10 #[.agg j.cells] w' fun e w'' => ∃ v, e = .returned (.tuple #[v, .int .i64 0]) ∧ w''.ownsRow w'.heap.size 46 2 v N.length (encR N) ∧ Below w'.heap.size w' w'') (hN : N.length ≤ 1000000)
    (hAt : ∀ (w0 : World) (gs gS : Nat) (nm fb fr : Value) (u v : Int) (w' : World), inF u = true → inF v = true → (j.U0 ≤ u ∧ u ≤ j.U1) → (j.V0 ≤ v ∧ v ≤ j.V1) → SG w0 gs j N 0 w' → Bk w' gS 96 (samS gs nm fb fr 1 (j.K == 3) j.mo j.c0 j.c1 j.c2 j.c3) →
      ((j.K = 0 ∧ fb = .func (.func 53) #[] #[]) ∨ (j.K = 2 ∧ fb = .func (.func 57) #[] #[]) ∨ ((j.K = 1 ∨ j.K = 3) ∧ fb = .func (.func 55) #[] #[])) →
      Calls Tryz.prog 18 #[.pointer (some ⟨gS, 0, none⟩), .int .i64 k, .int .i64 u, .int .i64 v] w' fun e w'' => ∃ r, e = .returned (.tuple #[r, .int .i64 0]) ∧ SG w0 gs j N 16 w'' ∧ Kp w' w'') :
    Calls Tryz.prog 4 #[.agg j.cells, .agg (p2A a b), .int .i64 k] w fun e w' => e = .returned (.bool true) ∧ Below w.heap.size w w' := by
  have hO := fun w' => own_any j w'
  have hA := fun w' => alive39 w'
  have hL := ((Lie.start w).alloc j.cells 28).alloc (p2A a b) 50
  simp only [World.size_alloc] at hL
  have k0 : Bk _ w.heap.size 28 j.cells := hL.k 1 (by simp)
  have kp : Bk _ (w.heap.size + 1) 50 (p2A a b) := hL.k 0 (by simp)
  have hb0 := hL.bel
  have d1 : decide (j.W > 60) = false := decide_eq_false (by omega)
  have d2 : decide (j.H > 60) = false := decide_eq_false (by omega)
  have d3 : decide (k < 0) = false := decide_eq_false (by omega)
  have d4 : decide (k ≥ j.L) = false := decide_eq_false (by omega)
  obtain ⟨u, hu⟩ : ∃ u, max j.U0 (min a j.U1) = u := ⟨_, rfl⟩
  obtain ⟨v, hv⟩ : ∃ v, max j.V0 (min b j.V1) = v := ⟨_, rfl⟩
  have hju := hj.u
  have hjv := hj.v
  have hub : Hid (j.U0 ≤ u ∧ u ≤ j.U1) := ⟨by omega, by omega⟩
  have hvb : Hid (j.V0 ≤ v ∧ v ≤ j.V1) := ⟨by omega, by omega⟩
  clear hL h1 h2 hk0 hk1 hju hjv
  go_enter Tryz.func4, Tryz.ntmps4
  go_upto_region 9 with (first
    | (refine ldB rfl _ _ rfl k0 rfl Tryz.underlying28 rfl job_size ?_)
    | (go_at_call 5; (with_reducible refine (hO _).mono ?_); rintro e w1 ⟨rfl, hb1⟩; have k1 := k0.nx hb1; have kp1 := kp.nx hb1; have hb01 := hb0.trans (hb1.mono hb0.size))
    | (go_at_call 6; (with_reducible refine (hR _).mono ?_); rintro e w2 ⟨rfl, hb2⟩; have k2 := k1.nx hb2; have kp2 := kp1.nx hb2; have hb02 := hb01.trans (hb2.mono hb01.size); obtain ⟨-, -, -, -, -, -, -, -, -, -, y10, y11, y12, -, -⟩ := k2.cellJ)
    | (refine ldB rfl _ _ rfl k2 rfl Tryz.underlying28 rfl job_size ?_)
    | (go_at_call 10; (with_reducible refine (hF _).mono ?_); rintro e w5 ⟨v5, rfl, ho5, hb5⟩; obtain ⟨A5, c5, rfl, -, -, hr5, -⟩ := own_form ho5; have k5 := k2.nx hb5; have kp5 := kp2.nx hb5; have y12' := k5.cellJ.2.2.2.2.2.2.2.2.2.2.2.2.1; have hb05 := hb02.trans (hb5.mono hb02.size)))
  obtain ⟨y0, y1, y2, y3, -, -, -, -, -, -, -, -, -, -, -⟩ := k5.cellJ
  obtain ⟨q0, q1⟩ := kp5.cell2
  have z0 := fun (n : Nat) (os : Array Obj) => cell_regrown y0 n os
  have z1 := fun (n : Nat) (os : Array Obj) => cell_regrown y1 n os
  have z2 := fun (n : Nat) (os : Array Obj) => cell_regrown y2 n os
  have z3 := fun (n : Nat) (os : Array Obj) => cell_regrown y3 n os
  have z4 := fun (n : Nat) (os : Array Obj) => cell_regrown q0 n os
  have z5 := fun (n : Nat) (os : Array Obj) => cell_regrown q1 n os
  refine wp_region_quiet_below (by kernel_rfl) (by kernel_rfl) ?_
  repeat (first
    | go_big_quiet_step ((fail))
    | quiet_step ((fail)))
  refine wpQuiet_nil ?_
  intro _ hw'
  obtain ⟨⟨d9, os⟩, hw''⟩ := hw'
  subst hw''
  have hbx := below_regrown w5 d9 os
  have k6 := k5.nx hbx
  have hb06 := hb05.trans (hbx.mono hb05.size)
  have hr6 := hr5.below hbx
  have hz56 := hbx.size
  clear y0 y1 y2 y3 y10 y11 y12 y12' q0 q1 z0 z1 z2 z3 z4 z5 k0 k1 k2 k5 kp kp1 kp2 kp5 hb0 hb01 hb02 hb05 hbx hr5 ho5 hb1 hb2 hb5 hR hF hO d1 d2 d3 d4 hu hv
  generalize Go.Sort.grow (redrawn w5 d9) os = w6 at *
  have hiu : inF u = true := by
    have h1 := inF_iff.1 hj.f.1
    have h2 := inF_iff.1 hj.f.2.2.1
    have h3 := hub.out
    exact inF_iff.2 ⟨by omega, by omega⟩
  have hiv : inF v = true := by
    have h1 := inF_iff.1 hj.f.2.1
    have h2 := inF_iff.1 hj.f.2.2.2
    have h3 := hvb.out
    exact inF_iff.2 ⟨by omega, by omega⟩
  have hBx := fun w' => bxhas_in j.U0 j.V0 j.U1 j.V1 u v w' hub.out.1 hub.out.2 hvb.out.1 hvb.out.2
  have hIn := fun w' => rin18 u w'
  rw [hiu] at hIn
  have hker : kerC j.K 1 j.mo = 0 := by
    have h1 := hj.k
    have h2 := hj.m
    unfold kerC modeC
    rw [if_neg (by omega), if_neg (by omega), if_neg (by omega)]
  have hNew := fun (g : Nat) w' => snew_ok g j.K 1 j.mo j.c0 j.c1 j.c2 j.c3 w' hker
  obtain ⟨y0, y1, y2, y3, -, -, -, -, -, -, -, -, -, -, -⟩ := k6.cellJ
  go_upto_region 16 with (first
    | (go_at_call 15; (with_reducible refine (hBx _).mono ?_); rintro e w7 ⟨rfl, hb7⟩; have k7 := k6.nx hb7; have hb07 := hb06.trans (hb7.mono hb06.size))
    | (go_at_call 16; (with_reducible refine (hIn _).mono ?_); rintro e w8 ⟨rfl, hb8⟩; have k8 := k7.nx hb8; have hb08 := hb07.trans (hb8.mono hb07.size); have kS := Bk.new w8 55 (spA j none 0 0); have k8A := k8.alloc (.cells (spA j none 0 0) 55); obtain ⟨s0, s1, s2, s3, s4, s5, s6, s7, s8, s9, s10, s11, s12, s13, s14⟩ := k8A.cellJ)
    | (refine ldB rfl _ _ rfl k8 rfl Tryz.underlying28 rfl job_size ?_)
    | (go_at_call 17; (with_reducible refine (hNew _ _).mono ?_); rintro e wa ⟨gS, nm, fb, fr, rfl, hgS, hKS, hfb, hba⟩))
  clear y0 y1 y2 y3 s0 s1 s2 s3 s4 s5 s6 s7 s8 s9 s10 s11 s12 s13 s14 k7 k8 k8A k6 hBx hIn hNew hker
  have hbS := (Below.refl w8.heap.size w8).alloc (Nat.le_refl _) (.cells (spA j none 0 0) 55)
  have hSpy0 : Spy w8 w8.heap.size j [] (w8.alloc (.cells (spA j none 0 0) 55)) := ⟨hbS, Nat.le_refl _, none, 0, kS, World.ownsRow_nil _ _ _ _⟩
  have hSG : SG w8 w8.heap.size j N 0 wa := ⟨[], hSpy0.nx hba, fun t ht => absurd ht (by simp), Nat.le_refl _⟩
  have hAt' := hAt w8 w8.heap.size gS nm fb fr u v wa hiu hiv hub.out hvb.out hSG hKS hfb
  have hr8 := (hr6.below' hb7 hz56).below' hb8 (Nat.le_trans hz56 hb7.size)
  have hzr : w5.heap.size ≤ w8.heap.size := Nat.le_trans hz56 (Nat.le_trans hb7.size hb8.size)
  clear hAt hSG hSpy0 hKS hfb hba hbS kS hub hvb hiu hiv hr6
  go_upto_region 20 with (go_at_call 18; (with_reducible refine hAt'.mono ?_); rintro e wb ⟨r, rfl, ⟨S, hspy, hS, hl⟩, hkp⟩; obtain ⟨A, c, kSp, hoS⟩ := hspy.row; have y15 := kSp.cellS.2.2.2.2.2)
  have hbX := hb08.trans (hspy.bel.mono hb08.size)
  have hrb := hr8.below' hspy.bel hzr
  have hrS := Rd.of_own hoS
  have hzb : w5.heap.size ≤ wb.heap.size := Nat.le_trans hzr hspy.bel.size
  clear hAt' hr8 hkp hspy kSp hoS y15 hb06 hb07 hb08 hb7 hb8 hj
  go_loopw [117] (fun i wr => ∃ q : Nat, q ≤ S.length ∧ i = .int .i64 (q : Int) ∧ Below wb.heap.size wb wr) (fun i _ => (S.length - intOf i).toNat)
  case atStart => exact ⟨0, by omega, rfl, Below.refl _ _⟩
  case round =>
    obtain ⟨q, hq, rfl, hbel⟩ := hrel
    have hbz := hbel.size
    by_cases hlt : (q : Int) < (S.length : Int)
    · have hq1 : q < S.length := by omega
      obtain ⟨b6, o6, rfl, hb6, e0, e1⟩ := rd_run (hrS.below hbel) q hq1
      have hmem : S[q] ∈ N := hS _ (List.getElem_mem hq1)
      have HQ1 := Lib.hid hq1
      have v1 := (lvq_fit (l := 0) (show q ≤ 2000000000 from Nat.le_trans hq (Nat.le_trans hl (by decide))) (Nat.le_refl q) (Nat.zero_le _)).2.2
      have V1 := Lib.hid v1
      clear v1
      generalize S[q] = t at *
      obtain ⟨t1, t2⟩ := t
      simp only at e0 e1
      have kn := Bk.new wr 46 #[.int .i64 0, .int .i64 0]
      have hbA := (Below.refl wr.heap.size wr).alloc (Nat.le_refl _) (.cells #[.int .i64 0, .int .i64 0] 46)
      go_upto_region 22 with (refine stB (ty := 46) (cells := tlA t1 t2) rfl _ _ rfl kn rfl rfl tile_sz2 rfl (by simp [Value.oneCell']) ?_; intro w9 k9 hg9 hs9)
      have hB9 := below_of_gb hbA hg9 (Nat.le_refl _) hbA.size
      have hbel9 := hbel.trans (hB9.mono hbz)
      have hH := phas_any N A5 N.length c5 w5.heap.size (t1, t2) w9 rfl hN (hrb.below' hbel9 hzb) (Nat.le_trans hzb hbel9.size)
      rw [decide_eq_true hmem] at hH
      simp only at hH
      clear e0 e1 kn hbA hg9 hs9 hbel
      go_wp2_with (first
        | (refine ldB rfl _ _ rfl k9 rfl Tryz.underlying46 rfl tile_sz2 ?_)
        | (go_at_call 13; (with_reducible refine hH.mono ?_); rintro e wc ⟨rfl, hbc⟩))
      exact ⟨⟨q + 1, HQ1.out, (by simp), hbel9.trans (hbc.mono hbel9.size)⟩, dec_j HQ1.out⟩
    · have hqe : q = S.length := by omega
      subst hqe
      have hbY := hbX.trans (hbel.mono hbX.size)
      go_wp2_with (go_at_call 9; (with_reducible refine (hA _).mono ?_); rintro e wd ⟨rfl, hbd⟩)
      go_returns
      exact ⟨rfl, hbY.trans (hbd.mono hbY.size)⟩
end Go.Proofs.YtibmhabipghjlaaGreat
end
